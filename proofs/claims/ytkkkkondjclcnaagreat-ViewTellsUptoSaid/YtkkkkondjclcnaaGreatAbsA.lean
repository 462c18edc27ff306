/- Boxes and rows that are made, written, grown: the model does what the abstract run says. -/
import Derived.Test.YtkkkkondjclcnaaGreatAbs8
import Derived.Great.BuildSlice
import Derived.Laws.MakeOwn
import Derived.Deep.AppendSrc
import Derived.Deep.Upon
set_option linter.all false
namespace Go.Proofs.YtkkkkondjclcnaaGreat.A
open Go
variable [bJ]
section
variable {C:Cx}{st:St}{a:Act}{w:World}{σ:Sp}{o:Oper}{d:Option Nat}{R:Rec}{Ω:du}{r:AV×St}
theorem Ed{k:Key}{l:List AV}(h:∀ x∈l,x.cC k=true):AV.dB k l=true:=by
 induction l with
 | nil=>rfl
 | cons y l ih=>
  grind [AV.dB]
theorem JF{I:Nat→Prop}{κ:Key→Nat}{n dp s:Nat}(hn:n<dp)(x:AV){v:Value}(h:VR w I κ x v)(hd:x.deep n=true):x.cC ⟨dp,s⟩=true:=by
 induction h with
 | f g cs vs hg hl hc ih=>
  refine Ed fun c hm=>?_
  obtain ⟨m,hm'⟩:=ec.1 hm
  exact ih m c hm' (mF hd c hm)
 | fm g cs vs hl hc ih=>
  refine Ed fun c hm=>?_
  obtain ⟨m,hm'⟩:=ec.1 hm
  exact ih m c hm' (mF hd c hm)
 | a cs vs hl h1 hc ih=>
  refine Ed fun c hm=>?_
  obtain ⟨m,hm'⟩:=ec.1 hm
  exact ih m c hm' (mF hd c hm)
 | tp cs vs hl hc ih=>
  refine Ed fun c hm=>?_
  obtain ⟨m,hm'⟩:=ec.1 hm
  exact ih m c hm' (mF hd c hm)
 | ifc t x v h ih=>exact ih hd
 | p k off=>
  grind [AV.deep,AV.cC]
 | sp k off m sz cap h1 h2=>
  grind [AV.deep,AV.cC]
 | _=>rfl
def Sp.add(σ:Sp)(b:Nat)(L:Option dz):Sp:={σ with ow:=fun x=>if x=b then L else σ.ow x}
theorem iE.alloc(h:au C st a w σ)(o:Obj)(L:Option dz):iE C w σ (w.alloc o) (σ.add w.heap.size L) none:=by
 have hne:∀ b l,σ.ow b=some l→b≠w.heap.size:=fun b l hb e=>by have:=h.own b l hb;omega
 refine ⟨fun b l hb _=>⟨heap_alloc_old w o (h.own b l hb),?_⟩,fun b hb=>heap_alloc_old w o (h.bT b hb).1,fun _ h=>h,rfl,by simp,fun b l hb=>?_,fun b hb=>?_⟩
 ·grind [Sp.add]
 ·simp only [Sp.add] at hb
  split at hb
  ·simp;omega
  ·have:=h.own b l hb;simp;omega
 ·have hb':σ.I b:=hb
  obtain ⟨h1,h2⟩:=h.bT b hb'
  refine ⟨by simp;omega,?_⟩
  grind [Sp.add]
theorem iE.drew{w':World}{σ':Sp}{M:Option dz}(h:iE C w.drew σ w' σ' M):iE C w σ w' σ' M:=⟨h.blk,h.bT,h.up,h.kap,h.size,h.own,h.dn⟩
theorem cM.alloc(h:au C st a w σ)(o:Obj)(L:Option dz):cM C w σ (w.alloc o) (σ.add w.heap.size L):=
 ⟨by simp,by grind [heap_alloc_old],fun _ h=>h,fun b hb=>heap_alloc_old w o (h.bT b hb).1,fun _ h=>.inl h,fun _ _=>rfl,fun b hb _=>ad (cT hb),rfl,rfl⟩
theorem au.Ra{d:Nat}{cs:List AV}{vs:Array Value}{T:TypeId}(h:au C st a w σ)(hd:d<1000000)(hca:CA w σ.I σ.κ cs vs)(hdeep:∀ c∈cs,c.cC ⟨C.E.dp,d⟩=true)(hcopy:∀ c∈cs,∀ t es,c≠.o t es)
  (hfr:∀ d',(ax st.fr d').cC ⟨C.E.dp,d⟩=true) (hbx:∀ d' cs',aO st.bx d'=some cs'→∀ c∈cs',c.cC ⟨C.E.dp,d⟩=true)
  (hhp:∀ k cs',k.dp≠C.E.dp→st.hp k=some cs'→∀ c∈cs',c.cC ⟨C.E.dp,d⟩=true) :
  ∃ σ',cM C w σ (w.alloc (.cells vs T)) σ'∧au C {st with bx:=(d,cs)::st.bx} a (w.alloc (.cells vs T)) σ'∧σ'.κ ⟨C.E.dp,d⟩=w.heap.size∧σ'.I=σ.I:=by
 have hs:=iE.alloc h (.cells vs T) (some (.box ⟨C.E.dp,d⟩))
 have h1:=h.same hs
 refine ⟨{(σ.add w.heap.size (some (.box ⟨C.E.dp,d⟩))) with κ:=fun k=>if k=⟨C.E.dp,d⟩ then w.heap.size else σ.κ k},?_,?_,by simp,rfl⟩
 ·have:=cM.alloc h (.cells vs T) (some (.box ⟨C.E.dp,d⟩))
  exact ⟨this.size,this.aP,this.up,this.bT,this.dn,by grind,this.ow,this.io⟩
 ·have hkap:∀ k,k≠⟨C.E.dp,d⟩→(if k=⟨C.E.dp,d⟩ then w.heap.size else σ.κ k)=σ.κ k:=fun k hk=>ad hk
  have hnk:∀ (x:AV),x.cC ⟨C.E.dp,d⟩=true→∀ k,x.cC k=false→k≠⟨C.E.dp,d⟩:=by
   grind
  have hrow:∀ pl r,({st with bx:=(d,cs)::st.bx} : St).rowAt C.E.dp pl=some r→(∀ off,pl≠.c ⟨C.E.dp,d⟩ off)→st.rowAt C.E.dp pl=some r:=by
   intro pl r hr hne
   cases pl with
   | s d'=>exact hr
   | c k off=>
    grind [St.rowAt,St.box,aO]
  refine ⟨h1.size,h1.defers,fun d'=>?_,fun k cs' hk=>?_,h1.hpd,h1.own,h1.bT,h1.new,h1.lay⟩
  ·have hx:=h1.fr d'
   have hn:=hfr d'
   have hpv:∀ pl,(∀ off,pl≠.c ⟨C.E.dp,d⟩ off)→fS (w.alloc (.cells vs T)) {(σ.add w.heap.size (some (.box ⟨C.E.dp,d⟩))) with κ:=fun k=>if k=⟨C.E.dp,d⟩ then w.heap.size else σ.κ k} a pl=
     fS (w.alloc (.cells vs T)) (σ.add w.heap.size (some (.box ⟨C.E.dp,d⟩))) a pl:=by
    intro pl hne
    cases pl with
    | s d''=>rfl
    | c k off=>
     have:k≠⟨C.E.dp,d⟩:=fun e=>hne off (by rw [e])
     simp only [fS,ad this]
     rfl
   generalize ax st.fr d'=x at hx hn ⊢
   show SR _ _ _ _ _ _ x _
   cases x with
   | o t es=>exact OwnAt.aP (C:=C) hx (fun g hg=>⟨rfl,hg⟩) (fun _ h=>h) (fun _ _=>rfl)
   | r pl=>
    have hne:∀ off,pl≠.c ⟨C.E.dp,d⟩ off:=by grind [AV.cC]
    intro hsm
    obtain ⟨r,hr⟩:=gq.1 hsm
    rw [hpv pl hne]
    exact hx (by grind)
   | v pl lo len=>
    have hne:∀ off,pl≠.c ⟨C.E.dp,d⟩ off:=by grind [AV.cC]
    intro t es ht hll
    rw [hpv pl hne]
    exact hx t es (hrow pl _ ht hne) hll
   | q pl i sz off=>
    have hne:∀ off,pl≠.c ⟨C.E.dp,d⟩ off:=by grind [AV.cC]
    intro t es ht hll
    rw [hpv pl hne]
    exact hx t es (hrow pl _ ht hne) hll
   | w g t x=>exact pE.aP hx (fun b hb=>⟨rfl,hb⟩) fun _ h=>h
   | ag cs' rs=>exact wG.to hx (fun c hc v hv=>hv.mono (fun _ h=>h) (fun _ _=>rfl) fun k hk=>hkap k ((by grind [nh,AV.cC]))) (fun _ _ hr=>⟨hr,rfl⟩)
   | _=>exact VR.mono hx (fun _ h=>h) (fun _ _=>rfl) fun k hk=>hkap k (hnk _ hn k hk)
  ·by_cases hK:k=⟨C.E.dp,d⟩
   ·subst hK
    simp only [St.box,aq,aO] at hk
    obtain rfl:=aa hk
    refine ⟨vs,T,by grind [heap_alloc_new],tE hca.len,by simp [Sp.add],fun _=>(h.new _ (by simp)).1,hca.one,fun off c hc=>?_,fun t _ _ ht=>(by obtain ⟨m,hm⟩:=ec.1 ht;cases hca.cell m _ hm),by grind,by simp only [aq];exact (h.new _ (aS _)).2⟩
    have hcm:=aL hc
    have hv:=(hca.cell off c hc).mono (w':=w.alloc (.cells vs T)) (I':=σ.I) (κ':=fun k=>if k=⟨C.E.dp,d⟩ then w.heap.size else σ.κ k) (fun _ h=>h)
     (fun b hb=>heap_alloc_old w _ (h.bT b hb).1) ((by grind))
    exact Q5 hv
   ·have hk':st.box C.E.dp k=some cs':=by
     simp only [St.box] at hk ⊢
     by_cases hkd:k.dp=C.E.dp
     ·have hne:d≠k.d:=fun e=>hK (by cases k;grind)
      grind [aO]
     grind
    obtain ⟨vs',T',hB⟩:=h1.bx k cs' hk'
    have hmem:∀ c∈cs',c.cC ⟨C.E.dp,d⟩=true:=by
     grind [St.box]
    refine ⟨vs',T',by simp only [ad hK];exact hB.hh,hB.size,by simp only [ad hK];exact hB.ow,fun hw=>by simp only [ad hK];exact hB.wr hw,hB.one,fun off c hc=>?_,hB.ty,by simp only [ad hK];exact hB.kb⟩
    exact CR.aP (C:=C) (hB.cell off c hc) (fun g hg=>⟨rfl,hg⟩) (fun _ h=>h) (fun _ _=>rfl) (fun k hk=>hkap k (hnk c (hmem c (aL hc)) k hk)) fun b g hg=>⟨rfl,hg⟩
theorem qB{p:AV→Bool}(hu:p .u=true):∀ (fr:List (Nat×AV)),fr.all (fun y=>p y.2)=true→∀ d,p (ax fr d)=true
 | [],_,_=>hu
 | (k,x)::fr,h,d=>by
  simp only [yQ,aA] at h
  simp only [ax]
  split
  ·exact h.1
  ·exact qB hu fr h.2 d
theorem nx{p:List AV→Bool} : ∀ (bx:List (Nat×List AV)),bx.all (fun y=>p y.2)=true→∀ d cs,aO bx d=some cs→p cs=true
 | [],_,_,_,h=>by cases h
 | (k,x)::bx,h,d,cs,hb=>by
  simp only [yQ,aA] at h
  simp only [aO] at hb
  split at hb
  ·grind
  ·exact nx bx h.2 d cs hb
theorem Iy(h:au C st a w σ)(d:Nat):∀ k cs,k.dp≠C.E.dp→st.hp k=some cs→∀ c∈cs,c.cC ⟨C.E.dp,d⟩=true:=by
 intro k cs hk hc c hm
 obtain ⟨h1,h2⟩:=h.hpd k cs hk hc
 obtain ⟨vs,T,hB⟩:=h.bx k cs (by simp [St.box,hk,hc])
 obtain ⟨off,ho⟩:=ec.1 hm
 have hcell:=hB.cell off c ho
 have hd:=h2 c hm
 cases c with
 | o t es=>rfl
 | r _=>cases hcell
 | v _ _ _=>cases hcell
 | q _ _ _ _=>cases hcell
 | u=>rfl
 | w _ _ _=>rfl
 | bp _ k' _=>
  grind [AV.deep,AV.cC]
 | _=>exact JF h1 _ hcell hd
theorem Px{w:World}{I:Nat→Prop}{κ:Key→Nat}{k:Key}{b:Nat}(h:κ k=b):VR w I κ (.p k 0) (.pointer (some ⟨b,0,none⟩)):=by
 subst h;exact .p k 0
theorem N8{zs:List AV}{dd:Nat}(h:au C st a w σ)(hd:dd<1000000)(hl:bC C.P (.al zs) o.op=true)(hdd:d=some dd)(hfr:∀ d',(ax st.fr d').cC ⟨C.E.dp,dd⟩=true)
  (hbx:∀ d' cs',aO st.bx d'=some cs'→∀ c∈cs',c.cC ⟨C.E.dp,dd⟩=true):eo C o d a w σ {st with bx:=(dd,zs)::st.bx} (.p ⟨C.E.dp,dd⟩ 0):=by
 simp only [bC] at hl
 split at hl
 ·rename_i t hop
  split at hl
  ·rename_i v hz
   simp only [aA] at hl
   obtain ⟨hlen,hcell⟩:=uW (w:=w) (I:=σ.I) (κ:=σ.κ) v.cells.toList zs hl.1
   have hpure:∀ c∈zs,c.pure=true:=by grind [List.mem_iff_getElem?]
   have hca:CA w σ.I σ.κ zs v.cells:=⟨by grind,by grind,by grind [Array.getD_eq_getD_getElem?]⟩
   obtain ⟨σ',hst,hco,hk,hI⟩:=h.Ra (T:=t) hd hca ((by grind [lM])) (fun c hm t es e=>by have:=hpure c hm;rw [e] at this;cases this)
    hfr hbx (Iy h dd)
   refine .jU (cv:=.pointer (some ⟨w.heap.size,0,none⟩)) ?_ ⟨hst,hco,fun _ _=>lg (Px hk),fun _ _ _ _ e=>by cases e⟩
   simp_all [Go.execOp,Instr.alloc,LG,newVar,newRow]
  ·cases hl
 ·cases hl
theorem Wm{P:Program}{zs:List AV}{op:Op}(hl:bC P (.al zs) op=true):∀ c∈zs,c.pure=true:=by
 simp only [bC] at hl
 split at hl
 ·split at hl
  ·rename_i v hz
   simp only [aA] at hl
   obtain ⟨hlen,hcell⟩:=uW (w:=default) (I:=fun _=>False) (κ:=fun _=>0) v.cells.toList zs hl.1
   grind [List.mem_iff_getElem?]
  ·cases hl
 ·cases hl
theorem abN{zs:List AV}(h:au C st a w σ)(hl:bC C.P (.al zs) o.op=true)(he:execOp R Ω C.E st d (.al zs)=some r) :
  eo C o d a w σ r.2 r.1:=by
 simp only [execOp] at he
 obtain ⟨dd,hdd,he⟩:=ah.1 he
 split at he
 ·rename_i hc
  simp only [aA] at hc
  obtain rfl:=aa he
  exact N8 h (by grind [iK]) hl hdd (qB rfl _ hc.1.2) (fun d' cs' hb c hm=>nh (nx _ hc.2 d' cs' hb) c hm)
 ·cases he
theorem abO{x:ba}(h:au C st a w σ)(hl:bC C.P (.bx x) o.op=true)(he:execOp R Ω C.E st d (.bx x)=some r) :
  eo C o d a w σ r.2 r.1:=by
 simp only [bC] at hl
 split at hl
 ·rename_i t y hop
  simp only [execOp] at he
  obtain ⟨dd,hdd,he⟩:=ah.1 he
  split at he
  ·rename_i hc
   simp only [aA] at hc
   obtain ⟨⟨⟨⟨⟨hcp,h1⟩,hdp⟩,hno⟩,hfr⟩,hbx⟩:=hc
   have hd:dd<1000000:=by grind [iK]
   obtain rfl:=aa he
   have hv:=h.uG hl hcp
   have h1':∀ c∈(st.ev x).cl,c.one=true:=by grind
   obtain ⟨hlen,hcell⟩:=hv.cells h1'
   have hca:CA w σ.I σ.κ (st.ev x).cl (a.eval y).cells:=⟨hlen,fun c hc=>.inl (h1' c hc),hcell⟩
   have hK:(st.ev x).cC ⟨C.E.dp,dd⟩=true:=by
    cases x with
    | t n=>exact qB (p:=fun y=>y.cC ⟨C.E.dp,dd⟩) rfl _ hfr n
    | c z=>exact lM _ (sY hl)
   have hKc:∀ c∈(st.ev x).cl,c.cC ⟨C.E.dp,dd⟩=true:=by
    intro c hm
    generalize st.ev x=z at hm hK
    cases z<;>simp only [AV.cl,fw] at hm<;>first | (subst hm;exact hK) | exact nh hK c hm
   have hno':∀ c∈(st.ev x).cl,∀ t es,c≠.o t es:=by
    intro c hm t es e
    subst e
    obtain ⟨m,hm⟩:=ec.1 hm
    have:=hcell m _ hm
    cases this
   obtain ⟨σ',hst,hco,hk,hI⟩:=h.Ra (T:=t) hd hca hKc hno'
    (qB rfl _ hfr) (fun d' cs' hb c hm=>nh (nx _ hbx d' cs' hb) c hm) (Iy h dd)
   refine .jU (cv:=.pointer (some ⟨w.heap.size,0,none⟩)) ?_ ⟨hst,hco,fun _ _=>lg (Px hk),fun _ _ _ _ e=>by cases e⟩
   simp_all [Go.execOp,Instr.box,newVar,newRow]
  ·cases he
 ·cases hl
end
variable [bJ]
section
variable {C:Cx}{st:St}{a:Act}{w:World}{σ:Sp}{o:Oper}{d:Option Nat}{R:Rec}{Ω:du}{r:AV×St}
theorem vY(bx:List (Nat×List AV))(d:Nat)(cs:List AV)(d':Nat) :
  aO (nP bx d cs) d'=if d'=d then (aO bx d).map fun _=>cs else aO bx d':=by
 induction bx with
 | nil=>simp [nP,aO]
 | cons x bx ih=>
  obtain ⟨k,c⟩:=x
  simp only [nP]
  by_cases hk:k=d
  ·subst hk
   simp only [aq,aO]
   by_cases hd:d'=k
   ·subst hd;simp
   ·rw [ad (fun e=>hd e.symm),ad hd,ad (fun e=>hd e.symm)]
  ·simp only [ad hk,aO]
   by_cases hd:d'=d
   ·subst hd
    simp only [ad hk,ih,aq]
   ·by_cases hkd:k=d'
    ·subst hkd;simp [hd]
    ·simp only [ad hkd,ih,ad hd]
theorem iP{dp:Nat}{k:Key}{cs cs':List AV}(h:st.box dp k=some cs)(k':Key) :
  (st.aK dp k cs').box dp k'=if k'=k then some cs' else st.box dp k':=by
 simp only [St.box] at h
 by_cases hk:k.dp=dp
 ·simp only [hk,aq] at h
  simp only [St.box,St.aK,hk,aq,vY,h,gv]
  by_cases hk':k'=k
  ·subst hk';simp [hk]
  ·by_cases hd:k'.dp=dp
   ·have:k'.d≠k.d:=fun e=>hk' (by cases k;cases k';simp at hk hd e;subst hk;subst hd;subst e;rfl)
    simp [hd,this,hk']
   ·simp [hd,hk']
 ·simp only [ad hk] at h
  simp only [St.box,St.aK,ad hk,aF]
  by_cases hk':k'=k
  ·subst hk';simp [hk]
  ·simp [hk']
theorem oh(dp:Nat)(st:St)(k:Key)(cs:List AV):(st.aK dp k cs).fr=st.fr:=by
 unfold St.aK;split<;>rfl
theorem ra{dp:Nat}{k:Key}{cs:List AV}(d:Nat):(st.aK dp k cs).rowAt dp (.s d)=st.rowAt dp (.s d):=by
 simp only [St.rowAt,oh]
theorem iE.setRow(h:au C st a w σ){g:Nat}{L:dz}(how:σ.ow g=some L)(cs:Array Value):iE C w σ (w.setRow g cs) σ (some L):=
 ⟨fun b l hb hl=>⟨setRow_other w g b cs (fun e=>hl (by subst e;rw [←hb,how])),hb⟩,
  fun b hb=>setRow_other w g b cs (fun e=>by subst e;have:=(h.bT b hb).2;rw [how] at this;cases this),
  fun _ h=>h,rfl,by simp,fun b l hb=>by simpa using h.own b l hb,fun b hb=>by simpa using h.bT b hb⟩
theorem cM.setRow(h:au C st a w σ){g:Nat}{L:dz}(how:σ.ow g=some L)(hW:C.W g)(cs:Array Value):cM C w σ (w.setRow g cs) σ:=
 ⟨by simp,fun b _ hb=>setRow_other w g b cs (fun e=>hb (by subst e;exact hW)),fun _ h=>h,(iE.setRow h how cs).bT,fun _ h=>.inl h,fun _ _=>rfl,fun _ _ _=>rfl,rfl,rfl⟩
def rV(vs:Array Value)(off:Nat)(us:List Value):Array Value:=(vs.toList.take off++us++vs.toList.drop (off+us.length)).toArray
theorem Bp(vs:Array Value)(off:Nat)(us:List Value)(h:off+us.length≤vs.size):(rV vs off us).size=vs.size:=by
 simp [rV];omega
theorem Bq(vs:Array Value)(off:Nat)(us:List Value)(h:off+us.length≤vs.size)(i:Nat) :
  (rV vs off us).getD i undef=if off≤i∧i<off+us.length then us[i - off]?.getD undef else vs.getD i undef:=by
 have h1:(vs.toList.take off).length=off:=by simp;omega
 simp only [rV,bn,yR]
 rw [lO,kv,h1]
 by_cases hi:i<off
 ·rw [ab hi,ad (by omega),eV,ab hi];simp
 ·rw [ad hi,kv]
  by_cases hj:i<off+us.length
  ·rw [ab (by omega),ab (by omega)]
  ·rw [ad (by omega),ad (by omega),gx]
   have:off+us.length+(i - off - us.length)=i:=by omega
   rw [this];simp
theorem au.LI{k:Key}{cs:List AV}{vs:Array Value}{T:TypeId}{off:Nat}{ys:List AV}{us:List Value}(h:au C st a w σ)(hb:st.box C.E.dp k=some cs)(hB:kg C w σ k cs vs T)
  (hl:ys.length=us.length) (hle:off+ys.length≤cs.length) (h1:∀ c∈ys,c.one=true) (hc:∀ (j:Nat)(c:AV),ys[j]? =some c→CR C w σ k (off+j) c (us[j]?.getD undef))
  (hbor:∀ (j:Nat) t es,ys[j]? =some (.o t es)→∀ d,(ax st.fr d).ji (.c k (off+j))=false) (hdeep:k.dp≠C.E.dp→∀ c∈ys,c.deep k.dp=true) (hzt:∀ t k u,AV.bp t k u∈ys→t=T∧vs.size=cs.length) :
  au C (st.aK C.E.dp k (putCells cs off ys)) a (w.setRow (σ.κ k) (rV vs off us)) σ:=by
 have hs:=iE.setRow h hB.ow (rV vs off us)
 have hsz:off+us.length≤vs.size:=by have:=hB.size;omega
 have hbox:=fun k'=>iP (cs':=putCells cs off ys) hb k'
 have hheap:(w.setRow (σ.κ k) (rV vs off us)).heap[σ.κ k]? =some (.cells (rV vs off us) T (0,0)):=setRow_heap w _ _ _ _ _ hB.hh
 have hother:∀ k',k'≠k→st.box C.E.dp k'≠none→(w.setRow (σ.κ k) (rV vs off us)).heap[σ.κ k']? =w.heap[σ.κ k']? :=by
  intro k' hne hb'
  obtain ⟨cs',hcs'⟩:=Option.ne_none_iff_exists'.1 hb'
  obtain ⟨vs',T',hB'⟩:=h.bx k' cs' hcs'
  exact (hs.blk _ _ hB'.ow (by simp [hne])).1
 have hinside:∀ i,¬(off≤i∧i<off+ys.length)→(putCells cs off ys)[i]? =cs[i]? :=by
  intro i hi;rw [iW _ _ _ hle,ad hi]
 have hrow:∀ pl r,(st.aK C.E.dp k (putCells cs off ys)).rowAt C.E.dp pl=some r→(∀ j t es,ys[j]? =some (.o t es)→pl≠.c k (off+j))→
   st.rowAt C.E.dp pl=some r∧fS (w.setRow (σ.κ k) (rV vs off us)) σ a pl=fS w σ a pl:=by
  intro pl r hr hne
  cases pl with
  | s d'=>rw [ra] at hr;exact ⟨hr,rfl⟩
  | c k' off'=>
   simp only [St.rowAt,hbox] at hr
   by_cases hk:k'=k
   ·subst hk
    simp only [aq] at hr
    by_cases hi:off≤off'∧off'<off+ys.length
    ·exfalso
     rw [iW _ _ _ hle,ab hi] at hr
     cases hy:ys[off' - off]? with
     | none=>simp [hy] at hr
     | some c=>
      cases c<;>simp [hy] at hr
      exact hne _ _ _ hy (by rw [show off+(off' - off)=off' by omega])
    ·rw [hinside off' hi] at hr
     refine ⟨by simp only [St.rowAt,hb];exact hr,?_⟩
     simp only [fS,hheap,hB.hh]
     rw [Bq _ _ _ hsz,ad (by omega)]
   ·simp only [ad hk] at hr
    refine ⟨by simp only [St.rowAt];exact hr,?_⟩
    have:st.box C.E.dp k'≠none:=fun e=>by simp [e] at hr
    simp only [fS,hother k' hk this]
 refine ⟨h.size,h.defers.same hs (by simp),fun d'=>?_,fun k' cs' hk=>?_,fun k' cs' hk hc'=>?_,hs.own,hs.dn,fun b hb=>h.new b (by simpa using hb),h.lay.aP hs.up hs.bT⟩
 ·have hx:=h.fr d'
  have hnb:∀ pl,(ax st.fr d').ji pl=true→∀ j t es,ys[j]? =some (.o t es)→pl≠.c k (off+j):=by
   intro pl hpl j t es hj e
   subst e
   rw [hbor j t es hj d'] at hpl;cases hpl
  rw [oh]
  generalize ax st.fr d'=x at hx hnb ⊢
  cases x with
  | o t es=>exact OwnAt.same hs (by simp) hx
  | r pl=>
   intro hsm
   obtain ⟨r,hr⟩:=gq.1 hsm
   obtain ⟨h2,h3⟩:=hrow pl r hr (hnb pl (by simp [AV.ji]))
   rw [h3]
   exact hx (by rw [h2];rfl)
  | v pl lo len=>
   intro t es ht hll
   obtain ⟨h2,h3⟩:=hrow pl _ ht (hnb pl (by simp [AV.ji]))
   rw [h3]
   exact hx t es h2 hll
  | q pl i sz off=>
   intro t es ht hll
   obtain ⟨h2,h3⟩:=hrow pl _ ht (hnb pl (by simp [AV.ji]))
   rw [h3]
   exact hx t es h2 hll
  | w g t x=>exact pE.same hs (by simp [Pl.pD]) hx
  | ag cs' rs=>
   refine wG.to hx (fun c _ v hv=>VR.same hs hv) (fun q hq hr=>?_)
   obtain ⟨r,hr⟩:=gq.1 hr
   obtain ⟨h2,h3⟩:=hrow (.s q.2) r hr (hnb (.s q.2) (lN.2 ⟨q,hq,by simp⟩))
   exact ⟨by rw [h2];rfl,rfl⟩
  | _=>exact VR.same hs hx
 ·rw [hbox] at hk
  by_cases hkk:k'=k
  ·subst hkk
   simp only [aq] at hk
   obtain rfl:=aa hk
   refine ⟨rV vs off us,T,hheap,by rw [Bp _ _ _ hsz,mL _ _ _ hle];exact hB.size,hB.ow,hB.wr,fun c hm=>?_,fun i c hi=>?_,fun t kk u ht=>?_,hB.kb⟩
   ·unfold putCells at hm
    rcases bU.1 hm with hm | hm
    ·rcases bU.1 hm with hm | hm
     ·exact hB.one c (eI hm)
     ·exact .inl (h1 c hm)
    ·exact hB.one c (fu hm)
   ·rw [Bq _ _ _ hsz]
    rw [iW _ _ _ hle] at hi
    rw [hl] at hi
    by_cases hin:off≤i∧i<off+us.length
    ·rw [ab hin] at hi ⊢
     have:=hc (i - off) c hi
     rw [show off+(i - off)=i by omega] at this
     exact CR.same hs (by simp) this
    ·rw [ad hin] at hi ⊢
     exact CR.same hs (by simp) (hB.cell i c hi)
   ·rw [Bp _ _ _ hsz,mL _ _ _ hle]
    unfold putCells at ht
    rcases bU.1 ht with ht | ht
    ·rcases bU.1 ht with ht | ht
     ·exact hB.ty t kk u (eI ht)
     ·exact hzt t kk u ht
    ·exact hB.ty t kk u (fu ht)
  ·simp only [ad hkk] at hk
   obtain ⟨vs',T',hB'⟩:=h.bx k' cs' hk
   exact ⟨vs',T',(hother k' hkk (by simp [hk])).trans hB'.hh,hB'.size,hB'.ow,hB'.wr,hB'.one,fun i c hi=>CR.same hs (by simp) (hB'.cell i c hi),hB'.ty,hB'.kb⟩
 ·by_cases hkd:k.dp=C.E.dp
  ·simp only [St.aK,hkd,aq] at hc'
   exact h.hpd k' cs' hk hc'
  ·simp only [St.aK,ad hkd,aF] at hc'
   split at hc'
   ·rename_i hkk
    subst hkk
    obtain rfl:=aa hc'
    have hold:=h.hpd k' cs hk (by simpa [St.box,hkd] using hb)
    refine ⟨hold.1,fun c hm=>?_⟩
    unfold putCells at hm
    rcases bU.1 hm with hm | hm
    ·rcases bU.1 hm with hm | hm
     ·exact hold.2 c (eI hm)
     ·exact hdeep hkd c hm
    ·exact hold.2 c (fu hm)
   ·exact h.hpd k' cs' hk hc'
theorem LJ(cs:List AV)(off:Nat)(x:AV)(h:off<cs.length):cs.set off x=putCells cs off [x]:=by
 apply List.ext_getElem?
 intro i
 rw [iW _ _ _ (by simp only [ov];omega),kx]
 by_cases hi:off=i
 ·subst hi;simp [h]
 ·rw [ad hi,ad (by simp;omega)]
theorem zY{t:TypeId}{g off:Nat}{vs:Array Value}{T:TypeId}{v:Value}{n:Nat}(hh:w.heap[g]? =some (.cells vs T (0,0)))(hs:sized C.P t n=true)(hn:v.cells.size=n)
  (hle:off+n≤vs.size) (h1:∀ u∈v.cells.toList,u.oneCell'=true) :
  (Instr.storeAt t (.pointer (some ⟨g,off,none⟩)) v).run C.P w= .ok () (w.setRow g (rV vs off v.cells.toList)):=by
 obtain ⟨hinfo,hcells,_⟩:=og hs
 have:=run_storeCells_at C.P g off T v.cells.toList 0 vs w hh (by simp;omega) h1
 simp only [lR] at this
 simp [Instr.storeAt,Instr.sureAddr,storeVar,jM hinfo,hcells,hn,this,rV]
theorem Tz{e:AV}{off:Nat}{ys:List AV}(hle:off+ys.length≤e.nc)(h1:∀ c∈ys,c.one=true):(A9 e off ys).cl=putCells e.cl off ys:=by
 by_cases ha:∃ cs,e= .a cs
 ·obtain ⟨cs,rfl⟩:=ha;rfl
 ·have hcl:e.cl=[e]:=by cases e<;>first | rfl | exact absurd ⟨_,rfl⟩ ha
  have hnc:e.nc=1:=by simp [AV.nc,hcl]
  have hput:A9 e off ys=Gm e ys:=by cases e<;>first | rfl | exact absurd ⟨_,rfl⟩ ha
  rw [hput,hcl]
  rw [hnc] at hle
  match ys,hle,h1 with
  | [],hle,_=>
   have:off=0∨off=1:=by simp at hle;omega
   rcases this with rfl | rfl<;>simp [putCells,hcl,Gm]
  | [y],hle,h1=>
   have:off=0:=by simp at hle;omega
   subst this
   have:=h1 y (by simp)
   have hy:y.cl=[y]:=by cases y<;>first | rfl | (simp [AV.one] at this)
   simp [putCells,hy,Gm]
  | y::z::ys,hle,_=>simp at hle;omega
theorem TA{x:AV}(h:∀ c∈x.cl,c.pure=true):x.pure=true:=by
 cases x with
 | a cs=>exact jo h
 | _=>exact h _ (by simp [AV.cl])
theorem xZ{cs:List AV}{off:Nat}{ys:List AV}{c:AV}(h:c∈putCells cs off ys):c∈cs∨c∈ys:=by
 unfold putCells at h
 rcases bU.1 h with h | h
 ·rcases bU.1 h with h | h
  ·exact .inl (eI h)
  ·exact .inr h
 ·exact .inl (fu h)
theorem fg.put{P:Program}{W:Nat→Prop}{L:dz}{wp:Prop}{t:TypeId}{es:List AV}{g cap:Nat}{cs:Array Value}{i off:Nat}{e:AV}{ys:List AV}{us:List Value}
  (hR:fg P W w σ L wp t es g cap cs) (hs:iE C w σ (w.setRow g (rV cs (i*P.cellsOf t+off) us)) σ (some L)) (he:es[i]? =some e) (hl:ys.length=us.length) (hle:off+ys.length≤P.cellsOf t)
  (h1:∀ c∈ys,c.one=true) (hp:∀ c∈ys,c.pure=true) (hv:∀ (m:Nat)(c:AV),ys[m]? =some c→VR w σ.I σ.κ c (us[m]?.getD undef)) :
  fg P W (w.setRow g (rV cs (i*P.cellsOf t+off) us)) σ L wp t (es.set i (A9 e off ys)) g cap (rV cs (i*P.cellsOf t+off) us):=by
 have hem:=aL he
 have hi:=cB he
 have hnc:=hR.nc e hem
 have hcl:=Tz (e:=e) (off:=off) (ys:=ys) (by rw [hnc];exact hle) h1
 have hecl:e.cl.length=P.cellsOf t:=hnc
 have hsz:i*P.cellsOf t+off+us.length≤cs.size:=by
  rw [hR.size]
  have:(i+1)*P.cellsOf t≤cap*P.cellsOf t:=fv _ (by have:=hR.ecap;omega)
  rw [da] at this
  omega
 have hmem:∀ x∈es.set i (A9 e off ys),x∈es∨x=A9 e off ys:=fun x hx=>iH hx
 refine ⟨hR.ow,hR.wr,setRow_heap w _ _ _ _ _ hR.hh,hR.pos,fun x hx=>?_,by simpa using hR.ecap,hR.max,by rw [Bp _ _ _ hsz,hR.size],fun x hx=>?_,fun x hx c hc=>?_,fun j x m c hj hm=>?_,hR.base⟩
 ·rcases hmem x hx with hx | rfl
  ·exact hR.nc x hx
  ·unfold AV.nc;rw [hcl,mL _ _ _ (by omega)];exact hnc
 ·rcases hmem x hx with hx | rfl
  ·exact hR.pure x hx
  ·refine TA fun c hc=>?_
   rw [hcl] at hc
   rcases xZ hc with hc | hc
   ·exact jq (hR.pure e hem) c hc
   ·exact hp c hc
 ·rcases hmem x hx with hx | rfl
  ·exact hR.one x hx c hc
  ·rw [hcl] at hc
   rcases xZ hc with hc | hc
   ·exact hR.one e hem c hc
   ·exact h1 c hc
 ·rw [Bq _ _ _ hsz]
  rw [kx] at hj
  by_cases hij:i=j
  ·subst hij
   rw [ab rfl,ab hi] at hj
   obtain rfl:=aa hj
   rw [hcl,iW _ _ _ (by omega)] at hm
   by_cases hin:off≤m∧m<off+ys.length
   ·rw [ab hin] at hm
    rw [ab (by omega),show i*P.cellsOf t+m - (i*P.cellsOf t+off)=m - off by omega]
    exact VR.same hs (hv _ c hm)
   ·rw [ad hin] at hm
    rw [ad (by omega)]
    exact VR.same hs (hR.cell i e m c he hm)
  ·rw [ad hij] at hj
   have hxn:=hR.nc x (aL hj)
   have hml:=cB hm
   have hxl:x.cl.length=P.cellsOf t:=hxn
   have:¬(i*P.cellsOf t+off≤j*P.cellsOf t+m∧j*P.cellsOf t+m<i*P.cellsOf t+off+us.length):=by
    rintro ⟨h2,h3⟩
    rcases lP i j with h4 | h4
    ·have:(i+1)*P.cellsOf t≤j*P.cellsOf t:=fv _ h4
     rw [da] at this
     omega
    ·have:(j+1)*P.cellsOf t≤i*P.cellsOf t:=fv _ (by omega)
     rw [da] at this
     omega
   rw [ad this]
   exact VR.same hs (hR.cell j x m c hj hm)
theorem au.putRow{pl:Pl}{t:TypeId}{es es':List AV}{w':World}{st':St}(h:au C st a w σ)(hrow:st.rowAt C.E.dp pl=some (t,es))(hlen:es'.length=es.length)
  (hs:iE C w σ w' σ (some (pl.pD C.E.dp))) (hnew:OwnAt C.P C.W w' σ (pl.pD C.E.dp) (pl.iJ C.E=true) t es' (fS w σ a pl)) (hp:st.putAt C.E.dp (.o t es') pl=some st') :
  au C st' a w' σ:=by
 have hhk:∀ k,st.box C.E.dp k≠none→w'.heap[σ.κ k]? =w.heap[σ.κ k]? :=by
  intro k hb'
  obtain ⟨cs',hcs'⟩:=Option.ne_none_iff_exists'.1 hb'
  obtain ⟨vs',T',hB'⟩:=h.bx k cs' hcs'
  exact (hs.blk _ _ hB'.ow (by cases pl<;>simp [Pl.pD])).1
 have hpvs:∀ p r,st.rowAt C.E.dp p=some r→fS w' σ a p=fS w σ a p:=by
  intro p r hr
  cases p with
  | s d=>rfl
  | c k off=>
   have:st.box C.E.dp k≠none:=fun e=>by simp [St.rowAt,e] at hr
   simp only [fS,hhk k this]
 cases pl with
 | s d=>
  obtain rfl:=aa hp
  have hd:ax st.fr d= .o t es:=by
   simp only [St.rowAt] at hrow
   split at hrow
   ·rename_i t' es' hx;rw [hx];simp at hrow;rw [hrow.1,hrow.2]
   ·cases hrow
  have hr2:∀ p t2 es2,(st.cV d (.o t es')).rowAt C.E.dp p=some (t2,es2)→∃ es0,st.rowAt C.E.dp p=some (t2,es0)∧es0.length=es2.length:=by
   intro p t2 es2 hr
   cases p with
   | s d2=>
    simp only [St.rowAt,St.cV,qz] at hr
    by_cases hdd:d=d2
    ·subst hdd
     simp only [aq,ju,Prod.mk.injEq] at hr
     exact ⟨es,by rw [hrow,hr.1],by rw [←hr.2,hlen]⟩
    ·simp only [ad hdd] at hr
     exact ⟨es2,hr,rfl⟩
   | c k off=>exact ⟨es2,hr,rfl⟩
  refine ⟨h.size,h.defers.same hs (by simp [Pl.pD]),fun d'=>?_,fun k cs hk=>?_,h.hpd,hs.own,hs.dn,fun b hb=>h.new b (bQ hs.size hb),h.lay.aP hs.up hs.bT⟩
  ·simp only [St.cV,qz]
   by_cases hdd:d=d'
   ·subst hdd
    rw [ab rfl]
    exact OwnAt.C4 hnew fun _=>rfl
   ·rw [ad hdd]
    have hx:=h.fr d'
    generalize ax st.fr d'=x at hx ⊢
    cases x with
    | o t2 es2=>exact OwnAt.same hs (by simp [Pl.pD];exact fun e=>hdd e.symm) hx
    | r p=>
     intro hsm
     obtain ⟨⟨t2,es2⟩,hr⟩:=gq.1 hsm
     obtain ⟨es0,h2,_⟩:=hr2 p t2 es2 hr
     rw [hpvs p _ h2]
     exact hx (by rw [h2];rfl)
    | v p lo len=>
     intro t2 es2 hr hll
     obtain ⟨es0,h2,h3⟩:=hr2 p t2 es2 hr
     rw [hpvs p _ h2]
     exact hx t2 es0 h2 (by omega)
    | q p i sz off=>
     intro t2 es2 hr hll
     obtain ⟨es0,h2,h3⟩:=hr2 p t2 es2 hr
     rw [hpvs p _ h2]
     exact hx t2 es0 h2 (by omega)
    | w g t x=>exact pE.same hs (by simp [Pl.pD]) hx
    | ag cs' rs=>
     refine wG.to hx (fun c _ v hv=>VR.same hs hv) (fun q _ hr=>?_)
     obtain ⟨⟨t2,es2⟩,hr⟩:=gq.1 hr
     obtain ⟨es0,h2,_⟩:=hr2 (.s q.2) t2 es2 hr
     exact ⟨by rw [h2];rfl,rfl⟩
    | _=>exact VR.same hs hx
  ·obtain ⟨vs,T,hB⟩:=h.bx k cs hk
   exact ⟨vs,T,(hhk k (by rw [show st.box C.E.dp k=some cs from hk];simp)).trans hB.hh,hB.size,hB.ow,hB.wr,hB.one,fun off c hc=>CR.same hs (by simp [Pl.pD]) (hB.cell off c hc),hB.ty,hB.kb⟩
 | c k off=>
  simp only [St.rowAt] at hrow
  cases hb:st.box C.E.dp k with
  | none=>simp [hb] at hrow
  | some cs=>
   simp only [hb] at hrow
   have hco:cs[off]? =some (.o t es):=by
    split at hrow
    ·rename_i t' es' hx;rw [hx];simp at hrow;rw [hrow.1,hrow.2]
    ·cases hrow
   have hol:=cB hco
   simp only [St.putAt,hb,ju] at hp
   subst hp
   have hbox:=fun k'=>iP (cs':=cs.set off (.o t es')) hb k'
   have hr2:∀ p t2 es2,(st.aK C.E.dp k (cs.set off (.o t es'))).rowAt C.E.dp p=some (t2,es2)→∃ es0,st.rowAt C.E.dp p=some (t2,es0)∧es0.length=es2.length:=by
    intro p t2 es2 hr
    cases p with
    | s d2=>rw [ra] at hr;exact ⟨es2,hr,rfl⟩
    | c k' off'=>
     simp only [St.rowAt,hbox] at hr
     by_cases hk:k'=k
     ·subst hk
      simp only [aq] at hr
      by_cases ho:off=off'
      ·subst ho
       rw [kx,ab rfl,ab hol] at hr
       simp only [ju,Prod.mk.injEq] at hr
       exact ⟨es,by simp only [St.rowAt,hb,hco,hr.1],by rw [←hr.2,hlen]⟩
      ·rw [kx,ad ho] at hr
       exact ⟨es2,by simp only [St.rowAt,hb];exact hr,rfl⟩
     ·simp only [ad hk] at hr
      exact ⟨es2,by simp only [St.rowAt];exact hr,rfl⟩
   refine ⟨h.size,h.defers.same hs (by simp [Pl.pD]),fun d'=>?_,fun k' cs' hk=>?_,fun k' cs' hk hc'=>?_,hs.own,hs.dn,fun b hb=>h.new b (bQ hs.size hb),h.lay.aP hs.up hs.bT⟩
   ·rw [oh]
    have hx:=h.fr d'
    generalize ax st.fr d'=x at hx ⊢
    cases x with
    | o t2 es2=>exact OwnAt.same hs (by simp [Pl.pD]) hx
    | r p=>
     intro hsm
     obtain ⟨⟨t2,es2⟩,hr⟩:=gq.1 hsm
     obtain ⟨es0,h2,_⟩:=hr2 p t2 es2 hr
     rw [hpvs p _ h2]
     exact hx (by rw [h2];rfl)
    | v p lo len=>
     intro t2 es2 hr hll
     obtain ⟨es0,h2,h3⟩:=hr2 p t2 es2 hr
     rw [hpvs p _ h2]
     exact hx t2 es0 h2 (by omega)
    | q p i sz off=>
     intro t2 es2 hr hll
     obtain ⟨es0,h2,h3⟩:=hr2 p t2 es2 hr
     rw [hpvs p _ h2]
     exact hx t2 es0 h2 (by omega)
    | w g t x=>exact pE.same hs (by simp [Pl.pD]) hx
    | ag cs' rs=>
     refine wG.to hx (fun c _ v hv=>VR.same hs hv) (fun q _ hr=>?_)
     obtain ⟨⟨t2,es2⟩,hr⟩:=gq.1 hr
     obtain ⟨es0,h2,_⟩:=hr2 (.s q.2) t2 es2 hr
     exact ⟨by rw [h2];rfl,rfl⟩
    | _=>exact VR.same hs hx
   ·rw [hbox] at hk
    by_cases hkk:k'=k
    ·subst hkk
     simp only [aq] at hk
     obtain rfl:=aa hk
     obtain ⟨vs,T,hB⟩:=h.bx k' cs hb
     refine ⟨vs,T,(hhk k' (by simp [hb])).trans hB.hh,by simpa using hB.size,hB.ow,hB.wr,fun c hm=>?_,fun i c hi=>?_,fun t kk u ht=>?_,hB.kb⟩
     ·rcases iH hm with hm | rfl
      ·exact hB.one c hm
      ·exact .inl rfl
     ·rw [kx] at hi
      by_cases ho:off=i
      ·subst ho
       rw [ab rfl,ab hol] at hi
       obtain rfl:=aa hi
       have:fS w σ a (.c k' off)=vs.getD off undef:=by simp only [fS,hB.hh]
       rw [this] at hnew
       exact hnew
      ·rw [ad ho] at hi
       exact CR.same hs (by simp [Pl.pD];exact fun e=>ho e.symm) (hB.cell i c hi)
     ·rcases iH ht with ht | ht
      ·simpa using hB.ty t kk u ht
      ·cases ht
    ·simp only [ad hkk] at hk
     obtain ⟨vs,T,hB⟩:=h.bx k' cs' hk
     exact ⟨vs,T,(hhk k' (by simp [hk])).trans hB.hh,hB.size,hB.ow,hB.wr,hB.one,fun i c hi=>CR.same hs (by simp [Pl.pD];exact fun e=>absurd e hkk) (hB.cell i c hi),hB.ty,hB.kb⟩
   ·by_cases hkd:k.dp=C.E.dp
    ·simp only [St.aK,hkd,aq] at hc'
     exact h.hpd k' cs' hk hc'
    ·simp only [St.aK,ad hkd,aF] at hc'
     split at hc'
     ·rename_i hkk
      subst hkk
      obtain rfl:=aa hc'
      have hold:=h.hpd k' cs hk (by simpa [St.box,hkd] using hb)
      refine ⟨hold.1,fun c hm=>?_⟩
      rcases iH hm with hm | rfl
      ·exact hold.2 c hm
      ·rfl
     ·exact h.hpd k' cs' hk hc'
end
variable [bJ]
section
variable {C:Cx}{st:St}{a:Act}{w:World}{σ:Sp}{o:Oper}{d:Option Nat}{R:Rec}{Ω:du}{r:AV×St}
theorem au.relabel{g:Nat}{L M:dz}(h:au C st a w σ)(hg:σ.ow g=some L)(hi:Idle C st (some L)):au C st a w (σ.add g (some M)):=by
 refine h.GS (L:=some L) ⟨fun b l hb hl=>⟨rfl,?_⟩,fun _ _=>rfl,fun _ h=>h,rfl,aS _,fun b l hb=>?_,fun b hb=>?_⟩ hi
 ·have:b≠g:=fun e=>hl (by subst e;rw [←hb,hg])
  simp only [Sp.add,ad this,hb]
 ·simp only [Sp.add] at hb
  split at hb
  ·rename_i e;subst e;exact h.own _ _ hg
  ·exact h.own b l hb
 ·obtain ⟨h1,h2⟩:=h.bT b hb
  have:b≠g:=fun e=>by subst e;rw [hg] at h2;cases h2
  exact ⟨h1,by simp only [Sp.add,ad this,h2]⟩
theorem cM.relabel{g:Nat}{L:Option dz}(hW:C.W g):cM C w σ w (σ.add g L):=
 ⟨aS _,fun _ _ _=>rfl,fun _ h=>h,fun _ _=>rfl,fun _ h=>.inl h,fun _ _=>rfl,fun b _ hb=>ad (fun e=>hb (by rw [e];exact hW)),rfl,rfl⟩
theorem fg.relabel{P:Program}{W:Nat→Prop}{L M:dz}{wp:Prop}{t:TypeId}{es:List AV}{g cap:Nat}{cs:Array Value}(h:fg P W w σ L wp t es g cap cs):fg P W w (σ.add g (some M)) M wp t es g cap cs:=
 ⟨by simp [Sp.add],h.wr,h.hh,h.pos,h.nc,h.ecap,h.max,h.size,h.pure,h.one,h.cell,h.base⟩
theorem au.take{L M:dz}{wp:Prop}{t:TypeId}{es:List AV}{v:Value}(h:au C st a w σ)(ho:OwnAt C.P C.W w σ L wp t es v)(hwp:wp)(hi:Idle C st (some L)) :
  ∃ σ',au C st a w σ'∧OwnAt C.P C.W w σ' M wp t es v∧cM C w σ w σ'∧σ'.κ=σ.κ:=by
 rcases ho with ⟨h1,h2⟩ | ⟨g,cap,cs,hv,hR⟩
 ·exact ⟨σ,h,.inl ⟨h1,h2⟩,.refl _ _ _,rfl⟩
 ·exact ⟨_,h.relabel hR.ow hi,.inr ⟨g,cap,cs,hv,hR.relabel⟩,.relabel (hR.wr hwp),rfl⟩
theorem fg.short{P:Program}{W:Nat→Prop}{L:dz}{wp:Prop}{t:TypeId}{es:List AV}{g cap:Nat}{cs:Array Value}(h:fg P W w σ L wp t es g cap cs)(n:Nat):fg P W w σ L wp t (es.take n) g cap cs:=
 ⟨h.ow,h.wr,h.hh,h.pos,fun e he=>h.nc e (eI he),by have:=h.ecap;simp;omega,h.max,h.size,fun e he=>h.pure e (eI he),fun e he=>h.one e (eI he),
  fun j e m c hj hm=>h.cell j e m c (by rw [eV] at hj;split at hj;exact hj;cases hj) hm,h.base⟩
theorem OwnAt.short{P:Program}{W:Nat→Prop}{L:dz}{wp:Prop}{t:TypeId}{es:List AV}{v v':Value}{len sz:Nat}(h:OwnAt P W w σ L wp t es v)(hl:len≤es.length)
  (hv:∃ A n cap,v= .slice A n cap∧v'= .slice (if cap=0 then A else A.map (·.add (0*sz))) len (cap - 0)):OwnAt P W w σ L wp t (es.take len) v':=by
 obtain ⟨A,n,cap,h1,h2⟩:=hv
 have hA:(if cap=0 then A else A.map (·.add (0*sz)))=A:=by
  split
  ·rfl
  ·rw [yS]
   cases A with
   | none=>rfl
   | some x=>simp [Addr.add]
 rw [hA,qn] at h2
 have hlen:(es.take len).length=len:=by simp;omega
 rcases h with ⟨rfl,hv⟩ | ⟨g,cap',cs,hv,hR⟩
 ·simp only [ig] at hl
  obtain rfl:len=0:=by omega
  refine .inl ⟨by simp,?_⟩
  rw [hv] at h1
  simp only [Value.slice.injEq] at h1
  rw [h2,←h1.1,←h1.2.2]
 ·rw [hv] at h1
  simp only [Value.slice.injEq] at h1
  exact .inr ⟨g,cap',cs,by rw [h2,←h1.1,←h1.2.2,hlen],hR.short len⟩
theorem Py(st:St)(pl:Pl)(d:Nat):ax (st.aZ pl).fr d= .u∨ax (st.aZ pl).fr d=ax st.fr d:=by
 simp only [St.aZ,mJ]
 split
 ·exact .inl rfl
 ·exact .inr rfl
theorem lA(st:St)(d d':Nat)(x:AV):ax (st.cV d x).fr d'=if d=d' then x else ax st.fr d':=rfl
theorem au.LK(h:au C st a w σ)(n:Nat):au C (st.cV n .u) a w σ:=
 h.forget (fun d=>by rw [lA];split;exact .inl rfl;exact .inr rfl) (fun _ _ h=>h) rfl
theorem vZ{n:Nat}(hn:∀ t es,ax st.fr n≠.o t es):Idle C st (some (.rowS C.E.dp n)):=
 ⟨fun d t es hd e=>by simp at e;subst e;exact hn _ _ hd,fun _ _ _=>by simp,fun _ _ _ _ _ _ _=>by simp,fun _=>by simp,by simp⟩
theorem BY{pl:Pl}{n:Nat}(hn:∀ t es,ax st.fr n≠.o t es):∀ t es,ax (st.aZ pl).fr n≠.o t es:=by
 intro t es
 rcases Py st pl n with e | e
 ·rw [e];simp
 ·rw [e];exact hn t es
theorem abP{x:ba}(h:au C st a w σ)(hl:bC C.P (.as x) o.op=true)(he:execOp R Ω C.E st d (.as x)=some r) :
  eo C o d a w σ r.2 r.1:=by
 obtain ⟨y,hop,hlo⟩:∃ y,o.op= .assign y∧bK y x=true:=by
  simp only [bC] at hl;split at hl
  ·rename_i y hy;exact ⟨y,hy,hl⟩
  ·cases hl
 have hr:(Go.execOp a.eval o).run C.P w= .ok (.value (a.eval y)) w:=by unfold Go.execOp;simp [hop]
 cases x with
 | c z=>
  simp only [execOp] at he
  split at he
  ·rename_i hp
   obtain rfl:=aa he
   exact .quiet h hr (dG z hp) (h.uG (x:=.c z) hlo (dG z hp))
  ·cases he
 | t n=>
  have hs:=h.slot hlo
  simp only [execOp] at he
  have hgen:∀ z,ax st.fr n=z→(∀ t es,z≠.o t es)→r=(z,st)→eo C o d a w σ r.2 r.1:=by
   intro z hz hno hre
   subst hre
   rw [hz] at hs
   exact .xY h hr hno fun dd=>Q8 hno hs
  split at he
  ·rename_i t es hx
   obtain ⟨dd,hdd,he⟩:=ah.1 he
   obtain rfl:=aa he
   rw [hx] at hs
   have h1:=(h.LK n).aZ (.s dd)
   have hn:∀ t es,ax ((st.cV n .u).aZ (.s dd)).fr n≠.o t es:=
    BY (fun t es=>by rw [lA,ab rfl];simp)
   obtain ⟨σ',hc,ho,hst,_⟩:=h1.take (M:=.rowS C.E.dp dd) hs trivial (vZ hn)
   refine .jU hr ⟨hst,hc,fun d2 hd2=>?_,fun d2 t2 es2 hd2 _ d'=>?_⟩
   ·rw [hdd] at hd2;obtain rfl:=aa hd2;exact ho
   ·rw [hdd] at hd2;obtain rfl:=aa hd2;exact jT _ _ _
  ·rename_i pl lo len hx
   obtain ⟨dd,hdd,he1⟩:=ah.1 he
   clear he
   split at he1
   ·rename_i hc
    simp only [aA,df,cS] at hc
    obtain ⟨hpl,hlo0⟩:=hc
    obtain ⟨⟨t,es⟩,hrow,he2⟩:=ah.1 he1
    clear he1
    simp only at he2
    split at he2
    ·rename_i hle
     obtain rfl:=aa he2
     rw [hx] at hs
     subst hlo0
     have hv:=hs t es hrow (by omega)
     subst hpl
     have ho:=(h.row hrow).short hle hv
     refine .jU hr ⟨.refl _ _ _,h.aZ _,fun d2 hd2=>?_,fun d2 t2 es2 hd2 _ d'=>?_⟩
     ·rw [hdd] at hd2;obtain rfl:=aa hd2;exact ho.C4 fun _=>rfl
     ·rw [hdd] at hd2;obtain rfl:=aa hd2;exact jT _ _ _
    ·cases he2
   ·exact hgen _ hx (fun _ _ e=>by cases e) (aa he1).symm
  ·rename_i hno hnv
   split at he
   ·exact hgen _ rfl (fun t es e=>hno t es e) (aa he).symm
   ·cases he
theorem Iz{x:AV}(h:x.copy=true):∀ c∈x.cl,c.copy=true:=by
 intro c hc
 cases x<;>simp only [AV.cl,fw] at hc<;>first | (subst hc;exact h) | skip
 exact yI (by simpa [AV.copy] using h) c hc
theorem Wn{n:Nat}{x:AV}(h:x.deep n=true):∀ c∈x.cl,c.deep n=true:=by
 intro c hc
 cases x<;>simp only [AV.cl,fw] at hc<;>first | (subst hc;exact h) | skip
 exact mF (by simpa [AV.deep] using h) c hc
theorem ahz{k:Key}{off:Nat}{c:AV}{v:Value}(hc:c.copy=true)(h:VR w σ.I σ.κ c v):CR C w σ k off c v:=by
 cases c<;>first | exact h | (simp [AV.copy] at hc)
theorem OwnAt.isSlice{P:Program}{W:Nat→Prop}{L:dz}{wp:Prop}{t:TypeId}{es:List AV}{v:Value}(h:OwnAt P W w σ L wp t es v):v.cells=#[v]∧v.oneCell'=true:=by
 rcases h with ⟨_,rfl⟩ | ⟨g,cap,cs,rfl,_⟩<;>exact ⟨rfl,rfl⟩
theorem au.LL{k:Key}{cs:List AV}{off:Nat}{t:TypeId}{es:List AV}{v:Value}(h:au C st a w σ)(hb:st.box C.E.dp k=some cs)(hlt:off<cs.length)
  (hm:(Pl.c k off).iJ C.E=true) (ho:OwnAt C.P C.W w σ (.rowC k off) True t es v) (hbor:∀ d,(ax st.fr d).ji (.c k off)=false) {T:TypeId} (hsz:sized C.P T 1=true) :
  ∃ w',(Instr.storeAt T (.pointer (some ⟨σ.κ k,off,none⟩)) v).run C.P w= .ok () w'∧au C (st.aK C.E.dp k (cs.set off (.o t es))) a w' σ∧cM C w σ w' σ:=by
 obtain ⟨vs,T',hB⟩:=h.bx k cs hb
 obtain ⟨hc1,hc2⟩:=ho.isSlice
 refine ⟨_,zY (n:=1) hB.hh hsz (by rw [hc1];rfl) (by have:=hB.size;omega) (fun u hu=>?_),?_,.setRow h hB.ow (hB.wr hm) _⟩
 ·rw [hc1] at hu
  have:u=v:=by simpa using hu
  rw [this];exact hc2
 ·rw [LJ _ _ _ hlt,hc1]
  refine h.LI hb hB (by simp) (by simp only [ov];omega) (fun c hc=>?_) (fun j c hj=>?_) (fun j t' es' hj=>?_) (fun _ c hc=>?_) (fun t' _ _ ht=>by simp at ht)
  ·have:c= .o t es:=by simpa using hc
   rw [this];rfl
  ·cases j with
   | zero=>
    have:AV.o t es=c:=by simpa using hj
    subst this
    exact ho.C4 fun _=>trivial
   | succ j=>simp at hj
  ·cases j with
   | zero=>exact hbor
   | succ j=>simp at hj
  ·have:c= .o t es:=by simpa using hc
   rw [this];rfl
theorem abQ{n:Nat}{x y:ba}(h:au C st a w σ)(hl:bC C.P (.st n x y) o.op=true)(he:execOp R Ω C.E st d (.st n x y)=some r) :
  eo C o d a w σ r.2 r.1:=by
 obtain ⟨t,x',y',hop,hlx,hly,hsz⟩:∃ t x' y',o.op= .store t x' y'∧bK x' x=true∧bK y' y=true∧sized C.P t n=true:=by
  simp only [bC] at hl;split at hl
  ·rename_i t x' y' hy
   simp only [aA] at hl
   exact ⟨_,_,_,hy,hl.1.1,hl.1.2,hl.2⟩
  ·cases hl
 have hrun:∀ g off w',a.eval x'= .pointer (some ⟨g,off,none⟩)→(Instr.storeAt t (.pointer (some ⟨g,off,none⟩)) (a.eval y')).run C.P w= .ok () w'→
   (Go.execOp a.eval o).run C.P w= .ok .skip w':=by
  intro g off w' hv hr
  unfold Go.execOp
  simp [hop,hv,hr]
 have hfin:∀ {w' σ' st'},(Go.execOp a.eval o).run C.P w= .ok .skip w'→cM C w σ w' σ'→au C st' a w' σ'→eo C o d a w σ st' .u:=fun hr hs hc=>
  .Wk hr ⟨hs,hc,fun _ _=>VR.u _,fun _ _ _ _ e=>by cases e⟩
 simp only [execOp] at he
 split at he
 ·rename_i k off hx
  have hv:=(hx▸h.eM hlx (by rw [hx];simp) (by rw [hx];rfl)).xm
  split at he
  ·rename_i hmine
   obtain ⟨cs,hbx,he1⟩:=ah.1 he
   clear he
   obtain ⟨vs,T,hB⟩:=h.bx k cs hbx
   have hWk:C.W (σ.κ k):=hB.wr hmine
   split at he1
   ·rename_i t' es hy
    split at he1
    ·rename_i m
     split at he1
     ·rename_i hc
      simp only [aA,cS,df] at hc
      obtain ⟨hn1,hlt⟩:=hc
      obtain rfl:=aa he1
      have hs:=h.slot hly
      have hy':ax st.fr m= .o t' es:=hy
      rw [hy'] at hs
      have h1:=(h.LK m).aZ (.c k off)
      have hn:∀ t es,ax ((st.cV m .u).aZ (.c k off)).fr m≠.o t es:=
       BY (fun t es=>by rw [lA,ab rfl];simp)
      obtain ⟨σ',hc,ho,hst,hkap⟩:=h1.take (M:=.rowC k off) hs trivial (vZ hn)
      have hbx':((st.cV m .u).aZ (.c k off)).box C.E.dp k=some cs:=hbx
      obtain ⟨w',hr,hc',hst'⟩:=hc.LL hbx' hlt hmine ho (fun d=>jT _ _ _) (hn1▸hsz)
      rw [hkap] at hr
      exact hfin (hrun _ _ _ hv hr) (hst.trans hst') hc'
     ·cases he1
    ·cases he1
   ·rename_i pl lo len hy
    split at he1
    ·rename_i hc
     simp only [aA,cS,df] at hc
     obtain ⟨⟨hpl,hlo0⟩,hn1⟩:=hc
     obtain ⟨⟨t',es⟩,hrow,he2⟩:=ah.1 he1
     clear he1
     simp only at he2
     split at he2
     ·rename_i hle
      obtain rfl:=aa he2
      obtain ⟨m,rfl,hm⟩:=dR hy rfl hly
      have hs:=h.slot hly
      rw [hm] at hs
      subst hlo0
      have hvv:=hs t' es hrow (by omega)
      subst hpl
      have ho:=(h.row hrow).short hle hvv
      have hlt:off<cs.length:=by
       have hbx2:st.box C.E.dp k=some cs:=hbx
       simp only [St.rowAt,hbx2] at hrow
       split at hrow
       ·rename_i hx;exact cB hx
       ·cases hrow
      obtain ⟨w',hr,hc',hst'⟩:=(h.aZ (.c k off)).LL (show (st.aZ (.c k off)).box C.E.dp k=some cs from hbx) hlt hmine (ho.C4 fun _=>hmine) (fun d=>jT _ _ _) (hn1▸hsz)
      exact hfin (hrun _ _ _ hv hr) hst' hc'
     ·cases he2
    ·cases he1
   ·split at he1
    ·rename_i hc
     simp only [aA,cS,df] at hc
     obtain ⟨⟨⟨⟨hcp,hnc⟩,hone⟩,hdeep⟩,hle⟩:=hc
     obtain rfl:=aa he1
     have h1:∀ c∈(st.ev y).cl,c.one=true:=fun c hc=>bH.1 hone c hc
     obtain ⟨hlen,hcell⟩:=(h.uG hly hcp).cells h1
     have hnc':(st.ev y).cl.length=n:=hnc
     refine hfin (hrun _ _ _ hv (zY (n:=n) hB.hh hsz (by omega) (by have:=hB.size;omega) (fun u hu=>?_))) (.setRow h hB.ow hWk _) ?_
     ·obtain ⟨m,hm⟩:=ec.1 hu
      have hml:m<(st.ev y).cl.length:=by have:=cB hm;simp at this;omega
      have:=hcell m _ (aB hml)
      have e:(a.eval y').cells.getD m undef=u:=by
       rw [vG] at hm
       simp [bn,hm]
      rw [e] at this
      exact this.Ix (h1 _ (cq hml))
     ·refine h.LI hbx hB (by simpa using hlen) (by omega) h1 (fun j c hj=>?_) (fun j t' es' hj=>?_) (fun _ c hc=>Wn hdeep c hc) (fun t' _ _ ht=>by have:=Iz hcp _ ht;cases this)
      ·have:=hcell j c hj
       refine ahz (Iz hcp c (aL hj)) ?_
       simpa [bn] using this
      ·have:=Iz hcp _ (aL hj)
       simp [AV.copy] at this
    ·cases he1
  ·cases he
 ·rename_i pl i sz off hx
  split at he
  ·rename_i hmine
   obtain ⟨⟨t',es⟩,hrow,he1⟩:=ah.1 he
   clear he
   obtain ⟨e,hee,he2⟩:=ah.1 he1
   clear he1
   simp only at he2
   split at he2
   ·rename_i hc
    simp only [aA,cS,df] at hc
    obtain ⟨⟨⟨⟨hsz',hpu⟩,hnc⟩,hone⟩,hle⟩:=hc
    obtain ⟨st',hput,he3⟩:=ah.1 he2
    clear he2
    obtain rfl:=aa he3
    have hlt:i<es.length:=cB hee
    obtain ⟨m,rfl,hm⟩:=dR hx rfl hlx
    obtain ⟨g,n',cap,hpv,hv⟩:=(hm▸h.slot hlx) t' es hrow hlt
    obtain ⟨g',cap',cs,hpv',hR⟩:=h.Bm hrow (fun e=>by subst e;simp at hlt)
    obtain ⟨rfl,rfl,rfl⟩:g=g'∧n'=es.length∧cap=cap':=by
     rw [hpv] at hpv';simpa using hpv'
    have hem:=aL hee
    have hszz:sz=C.P.cellsOf t':=hsz'.symm.trans (hR.nc e hem)
    subst hszz
    have h1:∀ c∈(st.ev y).cl,c.one=true:=fun c hc=>bH.1 hone c hc
    obtain ⟨hlen,hcell⟩:=(h.uG hly (dG _ hpu)).cells h1
    have hnc':(st.ev y).cl.length=n:=hnc
    have hle':i*C.P.cellsOf t'+off+n≤cs.size:=by
     rw [hR.size]
     have:(i+1)*C.P.cellsOf t'≤cap*C.P.cellsOf t':=fv _ (by have:=hR.ecap;omega)
     rw [da] at this
     omega
    have hsame:=iE.setRow h hR.ow (rV cs (i*C.P.cellsOf t'+off) (a.eval y').cells.toList)
    refine hfin (hrun _ _ _ hv (zY (n:=n) hR.hh hsz (by omega) hle' (fun u hu=>?_))) (.setRow h hR.ow (hR.wr hmine) _) ?_
    ·obtain ⟨m,hm⟩:=ec.1 hu
     have hml:m<(st.ev y).cl.length:=by have:=cB hm;simp at this;omega
     have:=hcell m _ (aB hml)
     have e:(a.eval y').cells.getD m undef=u:=by
      rw [vG] at hm
      simp [bn,hm]
     rw [e] at this
     exact this.Ix (h1 _ (cq hml))
    ·refine h.putRow hrow (by simp) hsame (.inr ⟨g,cap,_,by rw [hpv];simp,hR.put hsame hee (by simpa using hlen) (by omega) h1 (jq hpu) fun m c hm=>?_⟩) hput
     simpa [bn] using hcell m c hm
   ·cases he2
  ·cases he
 ·cases he
end
variable [bJ]
section
variable {C:Cx}{st:St}{a:Act}{w:World}{σ:Sp}{o:Oper}{d:Option Nat}{R:Rec}{Ω:du}{r:AV×St}
theorem VR.Aq{w w':World}{I I':Nat→Prop}{κ κ':Key→Nat}{x:AV}{v:Value}(h:VR w I κ x v)(hI:∀ b,I b→I' b)(hh:∀ b,I b→w'.heap[b]? =w.heap[b]?)(hp:x.pure=true):VR w' I' κ' x v:=
 h.mono hI hh fun k hk=>by rw [lM x hp] at hk;cases hk
theorem au.newRow(h:au C st a w σ){L:dz}{t:TypeId}{es:List AV}{cap:Nat}{cs:Array Value}(hpos:0<C.P.cellsOf t)(hnc:∀ e∈es,e.nc=C.P.cellsOf t)(hcap:es.length≤cap)(hmax:cap≤maxLen)
  (hsize:cs.size=cap*C.P.cellsOf t) (hp:∀ e∈es,e.pure=true) (h1:∀ e∈es,∀ c∈e.cl,c.one=true)
  (hc:∀ (j:Nat)(e:AV)(m:Nat)(c:AV),es[j]? =some e→e.cl[m]? =some c→VR w σ.I σ.κ c (cs.getD (j*C.P.cellsOf t+m) undef)) :
  ∃ σ',cM C w σ (w.alloc (.cells cs t)) σ'∧au C st a (w.alloc (.cells cs t)) σ'∧OwnAt C.P C.W (w.alloc (.cells cs t)) σ' L True t es (.slice (some ⟨w.heap.size,0,none⟩) es.length cap)∧σ'.κ=σ.κ:=by
 have hs:=iE.alloc h (.cells cs t) (some L)
 refine ⟨_,cM.alloc h _ (some L),h.same hs,.inr ⟨w.heap.size,cap,cs,rfl,by simp [Sp.add],fun _=>(h.new _ (aS _)).1,heap_alloc_new w _,hpos,hnc,hcap,hmax,hsize,hp,h1,fun j e m c he hm=>VR.same hs (hc j e m c he hm),(h.new _ (aS _)).2⟩,rfl⟩
theorem au.drew(h:au C st a w σ):au C st a w.drew σ:=
 h.same ⟨fun _ _ hb _=>⟨rfl,hb⟩,fun _ _=>rfl,fun _ h=>h,rfl,aS _,h.own,h.bT⟩
theorem cM.drew{w':World}{σ':Sp}(h:cM C w.drew σ w' σ'):cM C w σ w' σ':=⟨h.size,h.aP,h.up,h.bT,h.dn,h.kap,h.ow,h.io⟩
theorem JG(h:au C st a w σ){sz:Nat} :
  ∀ (ps:List (Nat×Operand))(xs:List ba)(i:Nat)(vs:Array Value),ps.map (·.1)=List.range' i ps.length→dT (ps.map (·.2)) xs=true→i*sz+xs.length*sz≤vs.size→
   (∀ x∈xs,(st.ev x).copy=true∧(st.ev x).nc=sz∧∀ c∈(st.ev x).cl,c.one=true)→
   ∃ vs',Instr.fill (fun i=>some (i*sz,sz)) vs (ps.map fun p=>(p.1,a.eval p.2))=some vs'∧vs'.size=vs.size∧(∀ j,j<i*sz→vs'[j]? =vs[j]?)∧
    ∀ (j:Nat)(x:ba)(m:Nat)(c:AV),xs[j]? =some x→(st.ev x).cl[m]? =some c→VR w σ.I σ.κ c (vs'.getD ((i+j)*sz+m) undef)
 | [],[],i,vs,_,_,_,_=>⟨vs,rfl,rfl,fun _ _=>rfl,fun j x m c hj=>by simp at hj⟩
 | (i',y)::ps,x::xs,i,vs,hi,hl,hle,hq=>by
  simp only [bZ,bu,yT,Cu] at hi
  obtain ⟨rfl,hi⟩:=hi
  simp only [bZ,dT,aA] at hl
  obtain ⟨hlo,hrest⟩:=hl
  obtain ⟨hcp,hnc,h1⟩:=hq x (by simp)
  obtain ⟨hcl,hcc⟩:=(h.uG hlo hcp).cells h1
  have hnc':(st.ev x).cl.length=sz:=hnc
  have hcs:(a.eval y).cells.size=sz:=by omega
  simp only [bu,da,Nat.one_mul] at hle
  have hlt:¬(i'*sz+sz>vs.size):=by omega
  have hval:=C7 (i'*sz) (a.eval y).cells.toList 0 vs (by simp;omega)
  have hsz2:=Bo (i'*sz) ((a.eval y).cells.toList.zipIdx) vs (fun z hz=>by
   have:=Cy hz
   simp at this;omega)
  have hfold:(a.eval y).cells.zipIdx.foldl (fun cs x=>cs.setIfInBounds (i'*sz+x.2) x.1) vs=(a.eval y).cells.toList.zipIdx.foldl (fun cs x=>cs.setIfInBounds (i'*sz+x.2) x.1) vs:=by
   rw [←Array.toList_zipIdx,Array.foldl_toList]
  generalize hvs2:(a.eval y).cells.toList.zipIdx.foldl (fun cs x=>cs.setIfInBounds (i'*sz+x.2) x.1) vs=vs2 at hval hsz2 hfold
  obtain ⟨vs',hfill,hsize,hold,hnew⟩:=JG h ps xs (i'+1) vs2 hi hrest (by rw [hsz2,da,Nat.one_mul];omega) (fun z hz=>hq z (by simp [hz]))
  refine ⟨vs',?_,hsize.trans hsz2,fun j hj=>?_,fun j z m c hj hm=>?_⟩
  ·simp only [bZ,Instr.fill,hcs,ne_eq,qo,qc,js,hlt,bB,aM]
   rw [hfold]
   exact hfill
  ·rw [hold j (by rw [da];omega),hval,ad (by omega)]
  ·cases j with
   | zero=>
    obtain rfl:x=z:=by simpa using hj
    have hml:=cB hm
    have:=hcc m c hm
    rw [bn,lR,hold _ (by rw [da];omega),hval,ab (by simp;omega)]
    rw [show i'*sz+m - i'*sz - 0=m by omega]
    simpa [bn] using this
   | succ j=>
    have:=hnew j z m c (by simpa using hj) hm
    rwa [show i'+1+j=i'+(j+1) by omega] at this
 | [],_::_,_,_,_,hl,_,_=>by simp [dT] at hl
 | _::_,[],_,_,_,hl,_,_=>by simp [dT] at hl
theorem au.rb{σ':Sp}{w':World}{st':St}{dd:Nat}{t:TypeId}{es:List AV}{cv:Value}(hdd:d=some dd)(hs:cM C w σ w' σ')(hc:au C (st'.aZ (.s dd)) a w' σ')(ho:OwnAt C.P C.W w' σ' (.rowS C.E.dp dd) True t es cv) :
  JD C (st'.aZ (.s dd)) a w σ d (.o t es) cv w' σ':=by
 refine ⟨hs,hc,fun d2 hd2=>?_,fun d2 _ _ hd2 _ d'=>?_⟩
 ·rw [hdd] at hd2;obtain rfl:=aa hd2;exact ho
 ·rw [hdd] at hd2;obtain rfl:=aa hd2;exact jT _ _ _
theorem ya{P:Program}{ty t:TypeId}(h:kh P ty=some t):P.underlying ty=some (.slice t):=by
 unfold kh at h
 split at h
 ·rename_i e hu;rw [hu];simp at h;rw [h]
 ·cases h
theorem abR{t sz:Nat}{xs:List ba}(h:au C st a w σ)(hl:bC C.P (.bs t sz xs) o.op=true)(he:execOp R Ω C.E st d (.bs t sz xs)=some r) :
  eo C o d a w σ r.2 r.1:=by
 simp only [bC] at hl
 split at hl
 ·rename_i ty len parts hop
  simp only [aA,cS,df] at hl
  obtain ⟨⟨⟨⟨⟨⟨hty,hsz⟩,hlen⟩,hidx⟩,hlo⟩,hbig⟩,hz⟩:=hl
  split at hz
  ·rename_i zv hzv
   have hzs:zv.cells.size=sz:=by simpa using hz
   have hu:=ya hty
   obtain ⟨i,hi,hiz⟩:=xn hzv
   obtain ⟨_,hcells,hpos⟩:=og hsz
   have hisz:i.size=sz:=by rw [←hcells];simp [Program.cellsOf,hi]
   simp only [execOp] at he
   obtain ⟨dd,hdd,he1⟩:=ah.1 he
   clear he
   split at he1
   ·rename_i hall
    obtain rfl:=aa he1
    have hall':∀ x∈xs,(st.ev x).pure=true∧(st.ev x).nc=sz∧∀ c∈(st.ev x).cl,c.one=true:=by
     intro x hx
     have:=bH.1 hall (st.ev x) (ox hx)
     simp only [aA,cS] at this
     exact ⟨this.1.1,this.2,fun c hc=>bH.1 this.1.2 c hc⟩
    have hpl:parts.toList.length=len:=by simpa using congrArg List.length hidx
    have hxl:xs.length=len:=hlen.symm
    let vs:Array Value:=if len*sz=0 then #[] else (Array.range (len*sz)).map (zv.cells[· % zv.cells.size]!)
    have hvs:vs.size=len*sz:=by
     by_cases h0:len*sz=0<;>simp [vs,h0]
    obtain ⟨vs',hfill,hsize,_,hnew⟩:=JG h (sz:=sz) parts.toList xs 0 vs (by rw [hidx,hpl,vH]) hlo (by rw [hvs,hxl];omega) (fun x hx=>⟨dG _ (hall' x hx).1,(hall' x hx).2⟩)
    have hmem:∀ e∈xs.map st.ev,e.pure=true∧e.nc=sz∧∀ c∈e.cl,c.one=true:=by
     intro e he
     obtain ⟨x,hx,rfl⟩:=eH.1 he
     exact hall' x hx
    obtain ⟨σ',hst,hc,ho,_⟩:=(h.aZ (.s dd)).newRow (L:=.rowS C.E.dp dd) (t:=t) (es:=xs.map st.ev) (cap:=len) (cs:=vs') (by omega) (fun e he=>by rw [hcells];exact (hmem e he).2.1) (by simp [hxl]) (by simp [maxLen];have:=Nat.le_mul_of_pos_right len hpos;omega)
     (by rw [hsize,hvs,hcells]) (fun e he=>(hmem e he).1) (fun e he=>(hmem e he).2.2) (fun j e m c hj hm=>by
      rw [gw] at hj
      cases hx:xs[j]? with
      | none=>simp [hx] at hj
      | some x=>
       obtain rfl:st.ev x=e:=by simpa [hx] using hj
       have:=hnew j x m c hx hm
       rw [hcells]
       simpa using this)
    rw [dC,hxl] at ho
    refine .jU ?_ (au.rb hdd hst hc ho)
    have hfill':Instr.fill (fun i=>some (i*sz,sz)) vs (parts.map fun x=>(x.1,a.eval x.2)).toList=some vs':=by rw [Array.toList_map];exact hfill
    unfold Go.execOp
    simp only [hop]
    by_cases h0:len*sz=0
    ·have hl0:len=0:=by
      rcases Nat.mul_eq_zero.1 h0 with e | e
      ·exact e
      ·omega
     have hp0:parts=#[]:=by
      apply lS
      exact oy (by omega)
     have hv0:vs'=#[]:=Js (by omega)
     subst hp0;subst hv0;subst hl0
     simp [Instr.buildSlice,run_underlying hu,sizeOf,typeInfo,hi,Instr.fill,Go.newRow,Array.range_zero']
    ·simp only [vs,h0,aM] at hfill'
     rw [Sem.run_bind,run_buildSlice w ty t len _ vs' i zv hu hi hiz (by rw [hisz];omega) (by rw [hisz];exact h0) (by rw [hisz];exact hfill')]
     simp
   ·cases he1
  ·cases hz
 ·cases hl
theorem abS{t sz by_:Nat}{z:AV}{n:ba}(h:au C st a w σ)(hl:bC C.P (.ms t sz by_ z n) o.op=true)(he:execOp R Ω C.E st d (.ms t sz by_ z n)=some r) :
  eo C o d a w σ r.2 r.1:=by
 simp only [bC] at hl
 split at hl
 ·rename_i ty l' c' hop
  simp only [aA,cS] at hl
  obtain ⟨⟨⟨⟨⟨hty,hsz⟩,hby⟩,hlo⟩,hlo'⟩,hz⟩:=hl
  split at hz
  ·rename_i zv hzv
   simp only [aA,cS] at hz
   obtain ⟨⟨hlz,hzs⟩,h1⟩:=hz
   have hu:=ya hty
   obtain ⟨i,hi,hiz⟩:=xn hzv
   obtain ⟨_,hcells,hpos⟩:=og hsz
   have hisz:i.size=sz:=by rw [←hcells];simp [Program.cellsOf,hi]
   have hiby:i.bytes=by_:=by rw [←hby];simp [Program.bytesOf,hi]
   simp only [execOp] at he
   obtain ⟨dd,hdd,he1⟩:=ah.1 he
   clear he
   obtain ⟨m,hm,he2⟩:=ah.1 he1
   clear he1
   obtain ⟨k,x,hx,hx0,hxm⟩:=C5 hm
   split at he2
   ·rename_i hc
    simp only [aA,df] at hc
    obtain ⟨hbytes,hmax⟩:=hc
    obtain rfl:=aa he2
    have hvl:=(hx▸h.eM hlo (by rw [hx];simp) (by rw [hx];rfl)).mK
    have hvc:=(hx▸h.eM hlo' (by rw [hx];simp) (by rw [hx];rfl)).mK
    have hxe:x=(m:Int):=by omega
    have hb2:(i.bytes:Int)*x≤281474976710656:=by
     rw [hxe,hiby]
     have:m*by_=by_*m:=kz _ _
     have h2:((by_*m:Nat):Int)≤281474976710656:=by omega
     rwa [Int.natCast_mul] at h2
    have hmax':x≤9223372036854775807:=by simp [maxLen] at hmax;omega
    have hrun:=run_make (P:=C.P) w ty t i zv hu hi hiz k k x x hx0 (yU _) hb2 hmax'
    obtain ⟨hzv',hzp⟩:=Ea (w:=w) (I:=σ.I) (κ:=σ.κ) zv z hlz
    have h1':∀ c∈z.cl,c.one=true:=fun c hc=>bH.1 h1 c hc
    obtain ⟨hzl,hzc⟩:=hzv'.cells h1'
    have hmem:∀ e∈List.replicate m z,e=z:=fun e he=>(Cz.1 he).2
    obtain ⟨σ',hst,hc,ho,_⟩:=(h.aZ (.s dd)).newRow (L:=.rowS C.E.dp dd) (t:=t) (es:=List.replicate m z) (cap:=m) (cs:=madeCells zv.cells (m*sz)) (by omega) (fun e he=>by rw [hmem e he,hcells];exact hzl.trans hzs) (by simp) hmax
     (by rw [size_madeCells,hcells]) (fun e he=>by rw [hmem e he];exact hzp) (fun e he=>by rw [hmem e he];exact h1') (fun j e q c hj hq=>by
      have hjm:=cB hj
      simp only [CB] at hjm
      have hez:=hmem e (aL hj)
      subst hez
      have hql:=cB hq
      have:=hzc q c hq
      rw [hcells]
      have hlt:j*sz+q<m*sz:=by
       have:(j+1)*sz≤m*sz:=fv _ (by omega)
       rw [da] at this
       omega
      have hmod:(j*sz+q) % zv.cells.size=q:=by rw [hzs,kz,Nat.mul_add_mod];exact Nat.mod_eq_of_lt (by omega)
      have:(madeCells zv.cells (m*sz)).getD (j*sz+q) undef=zv.cells.getD q undef:=by
       simp [madeCells,bn,hlt,hmod]
       have hqs:q<zv.cells.size:=by omega
       simp [hqs]
      rw [this]
      exact hzc q c hq)
    rw [CB] at ho
    refine .jU ?_ (au.rb hdd hst hc ho)
    unfold Go.execOp
    rw [hisz,hxm] at hrun
    simp [hop,hvl,hvc,hrun]
   ·cases he2
  ·cases hz
 ·cases hl
end
end Go.Proofs.YtkkkkondjclcnaaGreat.A
