/- Boxes and rows that are made, written, grown: the model does what the abstract run says. -/
import Derived.Test.YtkkkkondjclcnaaGreatAbs8
import Derived.Great.BuildSlice
import Derived.Laws.MakeOwn
import Derived.Deep.AppendSrc
import Derived.Deep.Upon
set_option linter.unusedSectionVars false
set_option linter.unusedVariables false
set_option linter.unusedSimpArgs false
set_option linter.constructorNameAsVariable false
namespace Go.Proofs.YtkkkkondjclcnaaGreat.A
open Go
variable [aY]
section
variable {C:Cx}{st:St}{a:Act}{w:World}{σ:Sp}{o:Oper}{d:Option Nat}{R:Rec}{Ω:cm}{r:AV×St}
theorem Bs{k:Key}{l:List AV}(h:∀ x∈l,x.bb k=true):AV.bM k l=true:=by
 induction l with
 | nil=>rfl
 | cons y l ih=>
  simp only [AV.bM,Bool.and_eq_true]
  exact ⟨h y (by simp),ih fun x hx=>h x (by simp [hx])⟩
theorem FT{I:Nat→Prop}{κ:Key→Nat}{n dp s:Nat}(hn:n<dp)(x:AV){v:Value}(h:VR w I κ x v)(hd:x.deep n=true):x.bb ⟨dp,s⟩=true:=by
 induction h with
 | f g cs vs hg hl hc ih=>
  refine Bs fun c hm=>?_
  obtain ⟨m,hm'⟩:=List.mem_iff_getElem?.1 hm
  exact ih m c hm' (kZ hd c hm)
 | fm g cs vs hl hc ih=>
  refine Bs fun c hm=>?_
  obtain ⟨m,hm'⟩:=List.mem_iff_getElem?.1 hm
  exact ih m c hm' (kZ hd c hm)
 | a cs vs hl h1 hc ih=>
  refine Bs fun c hm=>?_
  obtain ⟨m,hm'⟩:=List.mem_iff_getElem?.1 hm
  exact ih m c hm' (kZ hd c hm)
 | tp cs vs hl hc ih=>
  refine Bs fun c hm=>?_
  obtain ⟨m,hm'⟩:=List.mem_iff_getElem?.1 hm
  exact ih m c hm' (kZ hd c hm)
 | ifc t x v h ih=>exact ih hd
 | p k off=>
  have h':k.dp≤n:=by simpa [AV.deep] using hd
  simp only [AV.bb,decide_eq_true_eq]
  intro e;subst e;simp at h';omega
 | sp k off m sz cap h1 h2=>
  have h':k.dp≤n:=by simpa [AV.deep] using hd
  simp only [AV.bb,decide_eq_true_eq]
  intro e;subst e;simp at h';omega
 | _=>rfl
def Sp.add(σ:Sp)(b:Nat)(L:Option cQ):Sp:={σ with ow:=fun x=>if x=b then L else σ.ow x}
theorem fj.alloc(h:ad C st a w σ)(o:Obj)(L:Option cQ):fj C w σ (w.alloc o) (σ.add w.heap.size L) none:=by
 have hne:∀ b l,σ.ow b=some l→b≠w.heap.size:=fun b l hb e=>by have:=h.own b l hb;omega
 refine ⟨fun b l hb _=>⟨heap_alloc_old w o (h.own b l hb),?_⟩,fun b hb=>heap_alloc_old w o (h.ba b hb).1,fun _ h=>h,rfl,by simp,fun b l hb=>?_,fun b hb=>?_⟩
 ·simp only [Sp.add,if_neg (hne b l hb),hb]
 ·simp only [Sp.add] at hb
  split at hb
  ·simp;omega
  ·have:=h.own b l hb;simp;omega
 ·have hb':σ.I b:=hb
  obtain ⟨h1,h2⟩:=h.ba b hb'
  refine ⟨by simp;omega,?_⟩
  simp only [Sp.add,if_neg (show b≠w.heap.size by omega),h2]
theorem fj.drew{w':World}{σ':Sp}{M:Option cQ}(h:fj C w.drew σ w' σ' M):fj C w σ w' σ' M:=⟨h.blk,h.ba,h.up,h.kap,h.size,h.own,h.dn⟩
theorem bN.alloc(h:ad C st a w σ)(o:Obj)(L:Option cQ):bN C w σ (w.alloc o) (σ.add w.heap.size L):=
 ⟨by simp,fun b hb _=>heap_alloc_old w o hb,fun _ h=>h,fun b hb=>heap_alloc_old w o (h.ba b hb).1,fun _ h=>.inl h,fun _ _=>rfl,fun b hb _=>if_neg (Nat.ne_of_lt hb),rfl,rfl⟩
theorem ad.NF{d:Nat}{cs:List AV}{vs:Array Value}{T:TypeId}(h:ad C st a w σ)(hd:d<1000000)(hca:CA w σ.I σ.κ cs vs)(hdeep:∀ c∈cs,c.bb ⟨C.E.dp,d⟩=true)(hcopy:∀ c∈cs,∀ t es,c≠.o t es)
  (hfr:∀ d',(aj st.fr d').bb ⟨C.E.dp,d⟩=true) (hbx:∀ d' cs',aq st.bx d'=some cs'→∀ c∈cs',c.bb ⟨C.E.dp,d⟩=true)
  (hhp:∀ k cs',k.dp≠C.E.dp→st.hp k=some cs'→∀ c∈cs',c.bb ⟨C.E.dp,d⟩=true) :
  ∃ σ',bN C w σ (w.alloc (.cells vs T)) σ'∧ad C {st with bx:=(d,cs)::st.bx} a (w.alloc (.cells vs T)) σ'∧σ'.κ ⟨C.E.dp,d⟩=w.heap.size∧σ'.I=σ.I:=by
 have hs:=fj.alloc h (.cells vs T) (some (.box ⟨C.E.dp,d⟩))
 have h1:=h.same hs
 refine ⟨{(σ.add w.heap.size (some (.box ⟨C.E.dp,d⟩))) with κ:=fun k=>if k=⟨C.E.dp,d⟩ then w.heap.size else σ.κ k},?_,?_,by simp,rfl⟩
 ·have:=bN.alloc h (.cells vs T) (some (.box ⟨C.E.dp,d⟩))
  exact ⟨this.size,this.aH,this.up,this.ba,this.dn,fun k hk=>if_neg (fun e=>by subst e;exact Nat.lt_irrefl _ hk),this.ow,this.io⟩
 ·have hkap:∀ k,k≠⟨C.E.dp,d⟩→(if k=⟨C.E.dp,d⟩ then w.heap.size else σ.κ k)=σ.κ k:=fun k hk=>if_neg hk
  have hnk:∀ (x:AV),x.bb ⟨C.E.dp,d⟩=true→∀ k,x.bb k=false→k≠⟨C.E.dp,d⟩:=by
   intro x hx k hk e
   subst e
   rw [hx] at hk;cases hk
  have hrow:∀ pl r,({st with bx:=(d,cs)::st.bx} : St).rowAt C.E.dp pl=some r→(∀ off,pl≠.c ⟨C.E.dp,d⟩ off)→st.rowAt C.E.dp pl=some r:=by
   intro pl r hr hne
   cases pl with
   | s d'=>exact hr
   | c k off=>
    simp only [St.rowAt,St.box] at hr ⊢
    by_cases hk:k.dp=C.E.dp
    ·have hkd:d≠k.d:=fun e=>hne off (by cases k;simp at hk e;subst hk;subst e;rfl)
     simp only [hk,if_true,aq,if_neg hkd] at hr ⊢
     exact hr
    ·simp only [if_neg hk] at hr ⊢
     exact hr
  refine ⟨h1.size,h1.defers,fun d'=>?_,fun k cs' hk=>?_,h1.hpd,h1.own,h1.ba,h1.new,h1.lay⟩
  ·have hx:=h1.fr d'
   have hn:=hfr d'
   have hpv:∀ pl,(∀ off,pl≠.c ⟨C.E.dp,d⟩ off)→dQ (w.alloc (.cells vs T)) {(σ.add w.heap.size (some (.box ⟨C.E.dp,d⟩))) with κ:=fun k=>if k=⟨C.E.dp,d⟩ then w.heap.size else σ.κ k} a pl=
     dQ (w.alloc (.cells vs T)) (σ.add w.heap.size (some (.box ⟨C.E.dp,d⟩))) a pl:=by
    intro pl hne
    cases pl with
    | s d''=>rfl
    | c k off=>
     have:k≠⟨C.E.dp,d⟩:=fun e=>hne off (by rw [e])
     simp only [dQ,if_neg this]
     rfl
   generalize aj st.fr d'=x at hx hn ⊢
   show SR _ _ _ _ _ _ x _
   cases x with
   | o t es=>exact OwnAt.aH (C:=C) hx (fun g hg=>⟨rfl,hg⟩) (fun _ h=>h) (fun _ _=>rfl)
   | r pl=>
    have hne:∀ off,pl≠.c ⟨C.E.dp,d⟩ off:=fun off e=>by subst e;simp [AV.bb] at hn
    intro hsm
    obtain ⟨r,hr⟩:=Option.isSome_iff_exists.1 hsm
    rw [hpv pl hne]
    exact hx (by rw [hrow pl r hr hne];rfl)
   | v pl lo len=>
    have hne:∀ off,pl≠.c ⟨C.E.dp,d⟩ off:=fun off e=>by subst e;simp [AV.bb] at hn
    intro t es ht hll
    rw [hpv pl hne]
    exact hx t es (hrow pl _ ht hne) hll
   | q pl i sz off=>
    have hne:∀ off,pl≠.c ⟨C.E.dp,d⟩ off:=fun off e=>by subst e;simp [AV.bb] at hn
    intro t es ht hll
    rw [hpv pl hne]
    exact hx t es (hrow pl _ ht hne) hll
   | w g t x=>exact nT.aH hx (fun b hb=>⟨rfl,hb⟩) fun _ h=>h
   | ag cs' rs=>exact uv.to hx (fun c hc v hv=>hv.mono (fun _ h=>h) (fun _ _=>rfl) fun k hk=>hkap k (hnk c (ja (by simpa [AV.bb] using hn) c hc) k hk)) (fun _ _ hr=>⟨hr,rfl⟩)
   | _=>exact VR.mono hx (fun _ h=>h) (fun _ _=>rfl) fun k hk=>hkap k (hnk _ hn k hk)
  ·by_cases hK:k=⟨C.E.dp,d⟩
   ·subst hK
    simp only [St.box,if_true,aq] at hk
    obtain rfl:=Option.some.inj hk
    refine ⟨vs,T,by simp only [if_true];exact heap_alloc_new w _,Nat.le_of_eq hca.len,by simp [Sp.add],fun _=>(h.new _ (by simp)).1,hca.one,fun off c hc=>?_,fun t _ _ ht=>(by obtain ⟨m,hm⟩:=List.mem_iff_getElem?.1 ht;cases hca.cell m _ hm),fun hq=>absurd hq (Nat.not_le.2 hd),by simp only [if_true];exact (h.new _ (Nat.le_refl _)).2⟩
    have hcm:=List.mem_of_getElem? hc
    have hv:=(hca.cell off c hc).mono (w':=w.alloc (.cells vs T)) (I':=σ.I) (κ':=fun k=>if k=⟨C.E.dp,d⟩ then w.heap.size else σ.κ k) (fun _ h=>h)
     (fun b hb=>heap_alloc_old w _ (h.ba b hb).1) (fun k hk=>hkap k (hnk _ (hdeep c hcm) k hk))
    exact Nz hv
   ·have hk':st.box C.E.dp k=some cs':=by
     simp only [St.box] at hk ⊢
     by_cases hkd:k.dp=C.E.dp
     ·have hne:d≠k.d:=fun e=>hK (by cases k;simp at hkd e;subst hkd;subst e;rfl)
      simpa only [hkd,if_true,aq,if_neg hne] using hk
     ·simpa only [if_neg hkd] using hk
    obtain ⟨vs',T',hB⟩:=h1.bx k cs' hk'
    have hmem:∀ c∈cs',c.bb ⟨C.E.dp,d⟩=true:=by
     by_cases hkd:k.dp=C.E.dp
     ·simp only [St.box,hkd,if_true] at hk'
      exact hbx _ _ hk'
     ·simp only [St.box,if_neg hkd] at hk'
      exact hhp k cs' hkd hk'
    refine ⟨vs',T',by simp only [if_neg hK];exact hB.hh,hB.size,by simp only [if_neg hK];exact hB.ow,fun hw=>by simp only [if_neg hK];exact hB.wr hw,hB.one,fun off c hc=>?_,hB.ty,by simp only [if_neg hK];exact hB.kb⟩
    exact CR.aH (C:=C) (hB.cell off c hc) (fun g hg=>⟨rfl,hg⟩) (fun _ h=>h) (fun _ _=>rfl) (fun k hk=>hkap k (hnk c (hmem c (List.mem_of_getElem? hc)) k hk)) fun b g hg=>⟨rfl,hg⟩
theorem lR{p:AV→Bool}(hu:p .u=true):∀ (fr:List (Nat×AV)),fr.all (fun y=>p y.2)=true→∀ d,p (aj fr d)=true
 | [],_,_=>hu
 | (k,x)::fr,h,d=>by
  simp only [List.all_cons,Bool.and_eq_true] at h
  simp only [aj]
  split
  ·exact h.1
  ·exact lR hu fr h.2 d
theorem lS{p:List AV→Bool} : ∀ (bx:List (Nat×List AV)),bx.all (fun y=>p y.2)=true→∀ d cs,aq bx d=some cs→p cs=true
 | [],_,_,_,h=>by cases h
 | (k,x)::bx,h,d,cs,hb=>by
  simp only [List.all_cons,Bool.and_eq_true] at h
  simp only [aq] at hb
  split at hb
  ·obtain rfl:=Option.some.inj hb;exact h.1
  ·exact lS bx h.2 d cs hb
theorem EZ(h:ad C st a w σ)(d:Nat):∀ k cs,k.dp≠C.E.dp→st.hp k=some cs→∀ c∈cs,c.bb ⟨C.E.dp,d⟩=true:=by
 intro k cs hk hc c hm
 obtain ⟨h1,h2⟩:=h.hpd k cs hk hc
 obtain ⟨vs,T,hB⟩:=h.bx k cs (by simp [St.box,hk,hc])
 obtain ⟨off,ho⟩:=List.mem_iff_getElem?.1 hm
 have hcell:=hB.cell off c ho
 have hd:=h2 c hm
 cases c with
 | o t es=>rfl
 | r _=>cases hcell
 | v _ _ _=>cases hcell
 | q _ _ _ _=>cases hcell
 | u=>rfl
 | w _ _ _=>rfl
 | bp _ k' _=>
  have hd':k'.dp≤k.dp:=by simpa [AV.deep] using hd
  simp only [AV.bb,decide_eq_true_eq]
  intro e
  subst e
  exact Nat.lt_irrefl _ (Nat.lt_of_le_of_lt hd' h1)
 | _=>exact FT h1 _ hcell hd
theorem LL{w:World}{I:Nat→Prop}{κ:Key→Nat}{k:Key}{b:Nat}(h:κ k=b):VR w I κ (.p k 0) (.pointer (some ⟨b,0,none⟩)):=by
 subst h;exact .p k 0
theorem Kq{zs:List AV}{dd:Nat}(h:ad C st a w σ)(hd:dd<1000000)(hl:aV C.P (.al zs) o.op=true)(hdd:d=some dd)(hfr:∀ d',(aj st.fr d').bb ⟨C.E.dp,dd⟩=true)
  (hbx:∀ d' cs',aq st.bx d'=some cs'→∀ c∈cs',c.bb ⟨C.E.dp,dd⟩=true):cX C o d a w σ {st with bx:=(dd,zs)::st.bx} (.p ⟨C.E.dp,dd⟩ 0):=by
 simp only [aV] at hl
 split at hl
 ·rename_i t hop
  split at hl
  ·rename_i v hz
   simp only [Bool.and_eq_true] at hl
   obtain ⟨hlen,hcell⟩:=sZ (w:=w) (I:=σ.I) (κ:=σ.κ) v.cells.toList zs hl.1
   have hpure:∀ c∈zs,c.pure=true:=fun c hm=>by
    obtain ⟨m,hm⟩:=List.mem_iff_getElem?.1 hm
    exact (hcell m c hm).2
   have hca:CA w σ.I σ.κ zs v.cells:=⟨by simpa using hlen.symm,fun c hm=>.inl (List.all_eq_true.1 hl.2 c hm),fun m c hm=>by simpa [Array.getD_eq_getD_getElem?] using (hcell m c hm).1⟩
   obtain ⟨σ',hst,hco,hk,hI⟩:=h.NF (T:=t) hd hca (fun c hm=>ic c (hpure c hm)) (fun c hm t es e=>by have:=hpure c hm;rw [e] at this;cases this)
    hfr hbx (EZ h dd)
   refine .iN (cv:=.pointer (some ⟨w.heap.size,0,none⟩)) ?_ ⟨hst,hco,fun _ _=>iy (LL hk),fun _ _ _ _ e=>by cases e⟩
   ·unfold Go.execOp
    simp [hop,Instr.alloc,Is hz,newVar,newRow]
  ·cases hl
 ·cases hl
theorem RP{P:Program}{zs:List AV}{op:Op}(hl:aV P (.al zs) op=true):∀ c∈zs,c.pure=true:=by
 simp only [aV] at hl
 split at hl
 ·split at hl
  ·rename_i v hz
   simp only [Bool.and_eq_true] at hl
   obtain ⟨hlen,hcell⟩:=sZ (w:=default) (I:=fun _=>False) (κ:=fun _=>0) v.cells.toList zs hl.1
   intro c hm
   obtain ⟨m,hm⟩:=List.mem_iff_getElem?.1 hm
   exact (hcell m c hm).2
  ·cases hl
 ·cases hl
theorem VT{zs:List AV}(h:ad C st a w σ)(hl:aV C.P (.al zs) o.op=true)(he:execOp R Ω C.E st d (.al zs)=some r) :
  cX C o d a w σ r.2 r.1:=by
 simp only [execOp] at he
 obtain ⟨dd,hdd,he⟩:=Option.bind_eq_some_iff.1 he
 split at he
 ·rename_i hc
  simp only [Bool.and_eq_true] at hc
  obtain rfl:=Option.some.inj he
  exact Kq h (by have:=hc.1.1;simp only [fM,Bool.and_eq_true,decide_eq_true_eq] at this;exact this.2) hl hdd (lR rfl _ hc.1.2) (fun d' cs' hb c hm=>ja (lS _ hc.2 d' cs' hb) c hm)
 ·cases he
theorem VU{x:aO}(h:ad C st a w σ)(hl:aV C.P (.bx x) o.op=true)(he:execOp R Ω C.E st d (.bx x)=some r) :
  cX C o d a w σ r.2 r.1:=by
 simp only [aV] at hl
 split at hl
 ·rename_i t y hop
  simp only [execOp] at he
  obtain ⟨dd,hdd,he⟩:=Option.bind_eq_some_iff.1 he
  split at he
  ·rename_i hc
   simp only [Bool.and_eq_true] at hc
   obtain ⟨⟨⟨⟨⟨hcp,h1⟩,hdp⟩,hno⟩,hfr⟩,hbx⟩:=hc
   have hd:dd<1000000:=by simp only [fM,Bool.and_eq_true,decide_eq_true_eq] at hno;exact hno.2
   obtain rfl:=Option.some.inj he
   have hv:=h.su hl hcp
   have h1':∀ c∈(st.ev x).cl,c.one=true:=fun c hm=>List.all_eq_true.1 h1 c hm
   obtain ⟨hlen,hcell⟩:=hv.cells h1'
   have hca:CA w σ.I σ.κ (st.ev x).cl (a.eval y).cells:=⟨hlen,fun c hc=>.inl (h1' c hc),hcell⟩
   have hK:(st.ev x).bb ⟨C.E.dp,dd⟩=true:=by
    cases x with
    | t n=>exact lR (p:=fun y=>y.bb ⟨C.E.dp,dd⟩) rfl _ hfr n
    | c z=>exact ic _ (ry hl)
   have hKc:∀ c∈(st.ev x).cl,c.bb ⟨C.E.dp,dd⟩=true:=by
    intro c hm
    generalize st.ev x=z at hm hK
    cases z<;>simp only [AV.cl,List.mem_singleton] at hm<;>first | (subst hm;exact hK) | exact ja hK c hm
   have hno':∀ c∈(st.ev x).cl,∀ t es,c≠.o t es:=by
    intro c hm t es e
    subst e
    obtain ⟨m,hm⟩:=List.mem_iff_getElem?.1 hm
    have:=hcell m _ hm
    cases this
   obtain ⟨σ',hst,hco,hk,hI⟩:=h.NF (T:=t) hd hca hKc hno'
    (lR rfl _ hfr) (fun d' cs' hb c hm=>ja (lS _ hbx d' cs' hb) c hm) (EZ h dd)
   refine .iN (cv:=.pointer (some ⟨w.heap.size,0,none⟩)) ?_ ⟨hst,hco,fun _ _=>iy (LL hk),fun _ _ _ _ e=>by cases e⟩
   ·unfold Go.execOp
    simp [hop,Instr.box,newVar,newRow]
  ·cases he
 ·cases hl
end
variable [aY]
section
variable {C:Cx}{st:St}{a:Act}{w:World}{σ:Sp}{o:Oper}{d:Option Nat}{R:Rec}{Ω:cm}{r:AV×St}
theorem tV(bx:List (Nat×List AV))(d:Nat)(cs:List AV)(d':Nat) :
  aq (kK bx d cs) d'=if d'=d then (aq bx d).map fun _=>cs else aq bx d':=by
 induction bx with
 | nil=>simp [kK,aq]
 | cons x bx ih=>
  obtain ⟨k,c⟩:=x
  simp only [kK]
  by_cases hk:k=d
  ·subst hk
   simp only [if_true,aq]
   by_cases hd:d'=k
   ·subst hd;simp
   ·rw [if_neg (fun e=>hd e.symm),if_neg hd,if_neg (fun e=>hd e.symm)]
  ·simp only [if_neg hk,aq]
   by_cases hd:d'=d
   ·subst hd
    simp only [if_neg hk,ih,if_true]
   ·by_cases hkd:k=d'
    ·subst hkd;simp [hd]
    ·simp only [if_neg hkd,ih,if_neg hd]
theorem fX{dp:Nat}{k:Key}{cs cs':List AV}(h:st.box dp k=some cs)(k':Key) :
  (st.aC dp k cs').box dp k'=if k'=k then some cs' else st.box dp k':=by
 simp only [St.box] at h
 by_cases hk:k.dp=dp
 ·simp only [hk,if_true] at h
  simp only [St.box,St.aC,hk,if_true,tV,h,Option.map_some]
  by_cases hk':k'=k
  ·subst hk';simp [hk]
  ·by_cases hd:k'.dp=dp
   ·have:k'.d≠k.d:=fun e=>hk' (by cases k;cases k';simp at hk hd e;subst hk;subst hd;subst e;rfl)
    simp [hd,this,hk']
   ·simp [hd,hk']
 ·simp only [if_neg hk] at h
  simp only [St.box,St.aC,if_neg hk,ab]
  by_cases hk':k'=k
  ·subst hk';simp [hk]
  ·simp [hk']
theorem mK(dp:Nat)(st:St)(k:Key)(cs:List AV):(st.aC dp k cs).fr=st.fr:=by
 unfold St.aC;split<;>rfl
theorem pF{dp:Nat}{k:Key}{cs:List AV}(d:Nat):(st.aC dp k cs).rowAt dp (.s d)=st.rowAt dp (.s d):=by
 simp only [St.rowAt,mK]
theorem fj.setRow(h:ad C st a w σ){g:Nat}{L:cQ}(how:σ.ow g=some L)(cs:Array Value):fj C w σ (w.setRow g cs) σ (some L):=
 ⟨fun b l hb hl=>⟨setRow_other w g b cs (fun e=>hl (by subst e;rw [←hb,how])),hb⟩,
  fun b hb=>setRow_other w g b cs (fun e=>by subst e;have:=(h.ba b hb).2;rw [how] at this;cases this),
  fun _ h=>h,rfl,by simp,fun b l hb=>by simpa using h.own b l hb,fun b hb=>by simpa using h.ba b hb⟩
theorem bN.setRow(h:ad C st a w σ){g:Nat}{L:cQ}(how:σ.ow g=some L)(hW:C.W g)(cs:Array Value):bN C w σ (w.setRow g cs) σ:=
 ⟨by simp,fun b _ hb=>setRow_other w g b cs (fun e=>hb (by subst e;exact hW)),fun _ h=>h,(fj.setRow h how cs).ba,fun _ h=>.inl h,fun _ _=>rfl,fun _ _ _=>rfl,rfl,rfl⟩
def pY(vs:Array Value)(off:Nat)(us:List Value):Array Value:=(vs.toList.take off++us++vs.toList.drop (off+us.length)).toArray
theorem zd(vs:Array Value)(off:Nat)(us:List Value)(h:off+us.length≤vs.size):(pY vs off us).size=vs.size:=by
 simp [pY];omega
theorem ze(vs:Array Value)(off:Nat)(us:List Value)(h:off+us.length≤vs.size)(i:Nat) :
  (pY vs off us).getD i undef=if off≤i∧i<off+us.length then us[i - off]?.getD undef else vs.getD i undef:=by
 have h1:(vs.toList.take off).length=off:=by simp;omega
 simp only [pY,Array.getD_eq_getD_getElem?,List.getElem?_toArray]
 rw [List.append_assoc,List.getElem?_append,h1]
 by_cases hi:i<off
 ·rw [if_pos hi,if_neg (by omega),List.getElem?_take,if_pos hi];simp
 ·rw [if_neg hi,List.getElem?_append]
  by_cases hj:i<off+us.length
  ·rw [if_pos (by omega),if_pos (by omega)]
  ·rw [if_neg (by omega),if_neg (by omega),List.getElem?_drop]
   have:off+us.length+(i - off - us.length)=i:=by omega
   rw [this];simp
theorem ad.Iu{k:Key}{cs:List AV}{vs:Array Value}{T:TypeId}{off:Nat}{ys:List AV}{us:List Value}(h:ad C st a w σ)(hb:st.box C.E.dp k=some cs)(hB:e9 C w σ k cs vs T)
  (hl:ys.length=us.length) (hle:off+ys.length≤cs.length) (h1:∀ c∈ys,c.one=true) (hc:∀ (j:Nat)(c:AV),ys[j]? =some c→CR C w σ k (off+j) c (us[j]?.getD undef))
  (hbor:∀ (j:Nat) t es,ys[j]? =some (.o t es)→∀ d,(aj st.fr d).fe (.c k (off+j))=false) (hdeep:k.dp≠C.E.dp→∀ c∈ys,c.deep k.dp=true) (hzt:∀ t k u,AV.bp t k u∈ys→t=T∧vs.size=cs.length) :
  ad C (st.aC C.E.dp k (putCells cs off ys)) a (w.setRow (σ.κ k) (pY vs off us)) σ:=by
 have hs:=fj.setRow h hB.ow (pY vs off us)
 have hsz:off+us.length≤vs.size:=by have:=hB.size;omega
 have hbox:=fun k'=>fX (cs':=putCells cs off ys) hb k'
 have hheap:(w.setRow (σ.κ k) (pY vs off us)).heap[σ.κ k]? =some (.cells (pY vs off us) T (0,0)):=setRow_heap w _ _ _ _ _ hB.hh
 have hother:∀ k',k'≠k→st.box C.E.dp k'≠none→(w.setRow (σ.κ k) (pY vs off us)).heap[σ.κ k']? =w.heap[σ.κ k']? :=by
  intro k' hne hb'
  obtain ⟨cs',hcs'⟩:=Option.ne_none_iff_exists'.1 hb'
  obtain ⟨vs',T',hB'⟩:=h.bx k' cs' hcs'
  exact (hs.blk _ _ hB'.ow (by simp [hne])).1
 have hinside:∀ i,¬(off≤i∧i<off+ys.length)→(putCells cs off ys)[i]? =cs[i]? :=by
  intro i hi;rw [gj _ _ _ hle,if_neg hi]
 have hrow:∀ pl r,(st.aC C.E.dp k (putCells cs off ys)).rowAt C.E.dp pl=some r→(∀ j t es,ys[j]? =some (.o t es)→pl≠.c k (off+j))→
   st.rowAt C.E.dp pl=some r∧dQ (w.setRow (σ.κ k) (pY vs off us)) σ a pl=dQ w σ a pl:=by
  intro pl r hr hne
  cases pl with
  | s d'=>rw [pF] at hr;exact ⟨hr,rfl⟩
  | c k' off'=>
   simp only [St.rowAt,hbox] at hr
   by_cases hk:k'=k
   ·subst hk
    simp only [if_true] at hr
    by_cases hi:off≤off'∧off'<off+ys.length
    ·exfalso
     rw [gj _ _ _ hle,if_pos hi] at hr
     cases hy:ys[off' - off]? with
     | none=>simp [hy] at hr
     | some c=>
      cases c<;>simp [hy] at hr
      exact hne _ _ _ hy (by rw [show off+(off' - off)=off' by omega])
    ·rw [hinside off' hi] at hr
     refine ⟨by simp only [St.rowAt,hb];exact hr,?_⟩
     simp only [dQ,hheap,hB.hh]
     rw [ze _ _ _ hsz,if_neg (by omega)]
   ·simp only [if_neg hk] at hr
    refine ⟨by simp only [St.rowAt];exact hr,?_⟩
    have:st.box C.E.dp k'≠none:=fun e=>by simp [e] at hr
    simp only [dQ,hother k' hk this]
 refine ⟨h.size,h.defers.same hs (by simp),fun d'=>?_,fun k' cs' hk=>?_,fun k' cs' hk hc'=>?_,hs.own,hs.dn,fun b hb=>h.new b (by simpa using hb),h.lay.aH hs.up hs.ba⟩
 ·have hx:=h.fr d'
  have hnb:∀ pl,(aj st.fr d').fe pl=true→∀ j t es,ys[j]? =some (.o t es)→pl≠.c k (off+j):=by
   intro pl hpl j t es hj e
   subst e
   rw [hbor j t es hj d'] at hpl;cases hpl
  rw [mK]
  generalize aj st.fr d'=x at hx hnb ⊢
  cases x with
  | o t es=>exact OwnAt.same hs (by simp) hx
  | r pl=>
   intro hsm
   obtain ⟨r,hr⟩:=Option.isSome_iff_exists.1 hsm
   obtain ⟨h2,h3⟩:=hrow pl r hr (hnb pl (by simp [AV.fe]))
   rw [h3]
   exact hx (by rw [h2];rfl)
  | v pl lo len=>
   intro t es ht hll
   obtain ⟨h2,h3⟩:=hrow pl _ ht (hnb pl (by simp [AV.fe]))
   rw [h3]
   exact hx t es h2 hll
  | q pl i sz off=>
   intro t es ht hll
   obtain ⟨h2,h3⟩:=hrow pl _ ht (hnb pl (by simp [AV.fe]))
   rw [h3]
   exact hx t es h2 hll
  | w g t x=>exact nT.same hs (by simp [Pl.nS]) hx
  | ag cs' rs=>
   refine uv.to hx (fun c _ v hv=>VR.same hs hv) (fun q hq hr=>?_)
   obtain ⟨r,hr⟩:=Option.isSome_iff_exists.1 hr
   obtain ⟨h2,h3⟩:=hrow (.s q.2) r hr (hnb (.s q.2) (List.any_eq_true.2 ⟨q,hq,by simp⟩))
   exact ⟨by rw [h2];rfl,rfl⟩
  | _=>exact VR.same hs hx
 ·rw [hbox] at hk
  by_cases hkk:k'=k
  ·subst hkk
   simp only [if_true] at hk
   obtain rfl:=Option.some.inj hk
   refine ⟨pY vs off us,T,hheap,by rw [zd _ _ _ hsz,lG _ _ _ hle];exact hB.size,hB.ow,hB.wr,fun c hm=>?_,fun i c hi=>?_,fun t kk u ht=>?_,hB.kb⟩
   ·unfold putCells at hm
    rcases List.mem_append.1 hm with hm | hm
    ·rcases List.mem_append.1 hm with hm | hm
     ·exact hB.one c (List.mem_of_mem_take hm)
     ·exact .inl (h1 c hm)
    ·exact hB.one c (List.mem_of_mem_drop hm)
   ·rw [ze _ _ _ hsz]
    rw [gj _ _ _ hle] at hi
    rw [hl] at hi
    by_cases hin:off≤i∧i<off+us.length
    ·rw [if_pos hin] at hi ⊢
     have:=hc (i - off) c hi
     rw [show off+(i - off)=i by omega] at this
     exact CR.same hs (by simp) this
    ·rw [if_neg hin] at hi ⊢
     exact CR.same hs (by simp) (hB.cell i c hi)
   ·rw [zd _ _ _ hsz,lG _ _ _ hle]
    unfold putCells at ht
    rcases List.mem_append.1 ht with ht | ht
    ·rcases List.mem_append.1 ht with ht | ht
     ·exact hB.ty t kk u (List.mem_of_mem_take ht)
     ·exact hzt t kk u ht
    ·exact hB.ty t kk u (List.mem_of_mem_drop ht)
  ·simp only [if_neg hkk] at hk
   obtain ⟨vs',T',hB'⟩:=h.bx k' cs' hk
   exact ⟨vs',T',(hother k' hkk (by simp [hk])).trans hB'.hh,hB'.size,hB'.ow,hB'.wr,hB'.one,fun i c hi=>CR.same hs (by simp) (hB'.cell i c hi),hB'.ty,hB'.kb⟩
 ·by_cases hkd:k.dp=C.E.dp
  ·simp only [St.aC,hkd,if_true] at hc'
   exact h.hpd k' cs' hk hc'
  ·simp only [St.aC,if_neg hkd,ab] at hc'
   split at hc'
   ·rename_i hkk
    subst hkk
    obtain rfl:=Option.some.inj hc'
    have hold:=h.hpd k' cs hk (by simpa [St.box,hkd] using hb)
    refine ⟨hold.1,fun c hm=>?_⟩
    unfold putCells at hm
    rcases List.mem_append.1 hm with hm | hm
    ·rcases List.mem_append.1 hm with hm | hm
     ·exact hold.2 c (List.mem_of_mem_take hm)
     ·exact hdeep hkd c hm
    ·exact hold.2 c (List.mem_of_mem_drop hm)
   ·exact h.hpd k' cs' hk hc'
theorem Iv(cs:List AV)(off:Nat)(x:AV)(h:off<cs.length):cs.set off x=putCells cs off [x]:=by
 apply List.ext_getElem?
 intro i
 rw [gj _ _ _ (by simp only [List.length_singleton];omega),List.getElem?_set]
 by_cases hi:off=i
 ·subst hi;simp [h]
 ·rw [if_neg hi,if_neg (by simp;omega)]
theorem xx{t:TypeId}{g off:Nat}{vs:Array Value}{T:TypeId}{v:Value}{n:Nat}(hh:w.heap[g]? =some (.cells vs T (0,0)))(hs:sized C.P t n=true)(hn:v.cells.size=n)
  (hle:off+n≤vs.size) (h1:∀ u∈v.cells.toList,u.oneCell'=true) :
  (Instr.storeAt t (.pointer (some ⟨g,off,none⟩)) v).run C.P w= .ok () (w.setRow g (pY vs off v.cells.toList)):=by
 obtain ⟨hinfo,hcells,_⟩:=mJ hs
 have:=run_storeCells_at C.P g off T v.cells.toList 0 vs w hh (by simp;omega) h1
 simp only [Nat.add_zero] at this
 simp [Instr.storeAt,Instr.sureAddr,storeVar,iw hinfo,hcells,hn,this,pY]
theorem PW{e:AV}{off:Nat}{ys:List AV}(hle:off+ys.length≤e.nc)(h1:∀ c∈ys,c.one=true):(yz e off ys).cl=putCells e.cl off ys:=by
 by_cases ha:∃ cs,e= .a cs
 ·obtain ⟨cs,rfl⟩:=ha;rfl
 ·have hcl:e.cl=[e]:=by cases e<;>first | rfl | exact absurd ⟨_,rfl⟩ ha
  have hnc:e.nc=1:=by simp [AV.nc,hcl]
  have hput:yz e off ys=CM e ys:=by cases e<;>first | rfl | exact absurd ⟨_,rfl⟩ ha
  rw [hput,hcl]
  rw [hnc] at hle
  match ys,hle,h1 with
  | [],hle,_=>
   have:off=0∨off=1:=by simp at hle;omega
   rcases this with rfl | rfl<;>simp [putCells,hcl,CM]
  | [y],hle,h1=>
   have:off=0:=by simp at hle;omega
   subst this
   have:=h1 y (by simp)
   have hy:y.cl=[y]:=by cases y<;>first | rfl | (simp [AV.one] at this)
   simp [putCells,hy,CM]
  | y::z::ys,hle,_=>simp at hle;omega
theorem PX{x:AV}(h:∀ c∈x.cl,c.pure=true):x.pure=true:=by
 cases x with
 | a cs=>exact ib h
 | _=>exact h _ (by simp [AV.cl])
theorem wh{cs:List AV}{off:Nat}{ys:List AV}{c:AV}(h:c∈putCells cs off ys):c∈cs∨c∈ys:=by
 unfold putCells at h
 rcases List.mem_append.1 h with h | h
 ·rcases List.mem_append.1 h with h | h
  ·exact .inl (List.mem_of_mem_take h)
  ·exact .inr h
 ·exact .inl (List.mem_of_mem_drop h)
theorem dT.put{P:Program}{W:Nat→Prop}{L:cQ}{wp:Prop}{t:TypeId}{es:List AV}{g cap:Nat}{cs:Array Value}{i off:Nat}{e:AV}{ys:List AV}{us:List Value}
  (hR:dT P W w σ L wp t es g cap cs) (hs:fj C w σ (w.setRow g (pY cs (i*P.cellsOf t+off) us)) σ (some L)) (he:es[i]? =some e) (hl:ys.length=us.length) (hle:off+ys.length≤P.cellsOf t)
  (h1:∀ c∈ys,c.one=true) (hp:∀ c∈ys,c.pure=true) (hv:∀ (m:Nat)(c:AV),ys[m]? =some c→VR w σ.I σ.κ c (us[m]?.getD undef)) :
  dT P W (w.setRow g (pY cs (i*P.cellsOf t+off) us)) σ L wp t (es.set i (yz e off ys)) g cap (pY cs (i*P.cellsOf t+off) us):=by
 have hem:=List.mem_of_getElem? he
 have hi:=bq he
 have hnc:=hR.nc e hem
 have hcl:=PW (e:=e) (off:=off) (ys:=ys) (by rw [hnc];exact hle) h1
 have hecl:e.cl.length=P.cellsOf t:=hnc
 have hsz:i*P.cellsOf t+off+us.length≤cs.size:=by
  rw [hR.size]
  have:(i+1)*P.cellsOf t≤cap*P.cellsOf t:=Nat.mul_le_mul_right _ (by have:=hR.ecap;omega)
  rw [Nat.add_mul] at this
  omega
 have hmem:∀ x∈es.set i (yz e off ys),x∈es∨x=yz e off ys:=fun x hx=>List.mem_or_eq_of_mem_set hx
 refine ⟨hR.ow,hR.wr,setRow_heap w _ _ _ _ _ hR.hh,hR.pos,fun x hx=>?_,by simpa using hR.ecap,hR.max,by rw [zd _ _ _ hsz,hR.size],fun x hx=>?_,fun x hx c hc=>?_,fun j x m c hj hm=>?_,hR.base⟩
 ·rcases hmem x hx with hx | rfl
  ·exact hR.nc x hx
  ·unfold AV.nc;rw [hcl,lG _ _ _ (by omega)];exact hnc
 ·rcases hmem x hx with hx | rfl
  ·exact hR.pure x hx
  ·refine PX fun c hc=>?_
   rw [hcl] at hc
   rcases wh hc with hc | hc
   ·exact iQ (hR.pure e hem) c hc
   ·exact hp c hc
 ·rcases hmem x hx with hx | rfl
  ·exact hR.one x hx c hc
  ·rw [hcl] at hc
   rcases wh hc with hc | hc
   ·exact hR.one e hem c hc
   ·exact h1 c hc
 ·rw [ze _ _ _ hsz]
  rw [List.getElem?_set] at hj
  by_cases hij:i=j
  ·subst hij
   rw [if_pos rfl,if_pos hi] at hj
   obtain rfl:=Option.some.inj hj
   rw [hcl,gj _ _ _ (by omega)] at hm
   by_cases hin:off≤m∧m<off+ys.length
   ·rw [if_pos hin] at hm
    rw [if_pos (by omega),show i*P.cellsOf t+m - (i*P.cellsOf t+off)=m - off by omega]
    exact VR.same hs (hv _ c hm)
   ·rw [if_neg hin] at hm
    rw [if_neg (by omega)]
    exact VR.same hs (hR.cell i e m c he hm)
  ·rw [if_neg hij] at hj
   have hxn:=hR.nc x (List.mem_of_getElem? hj)
   have hml:=bq hm
   have hxl:x.cl.length=P.cellsOf t:=hxn
   have:¬(i*P.cellsOf t+off≤j*P.cellsOf t+m∧j*P.cellsOf t+m<i*P.cellsOf t+off+us.length):=by
    rintro ⟨h2,h3⟩
    rcases Nat.lt_or_ge i j with h4 | h4
    ·have:(i+1)*P.cellsOf t≤j*P.cellsOf t:=Nat.mul_le_mul_right _ h4
     rw [Nat.add_mul] at this
     omega
    ·have:(j+1)*P.cellsOf t≤i*P.cellsOf t:=Nat.mul_le_mul_right _ (by omega)
     rw [Nat.add_mul] at this
     omega
   rw [if_neg this]
   exact VR.same hs (hR.cell j x m c hj hm)
theorem ad.putRow{pl:Pl}{t:TypeId}{es es':List AV}{w':World}{st':St}(h:ad C st a w σ)(hrow:st.rowAt C.E.dp pl=some (t,es))(hlen:es'.length=es.length)
  (hs:fj C w σ w' σ (some (pl.nS C.E.dp))) (hnew:OwnAt C.P C.W w' σ (pl.nS C.E.dp) (pl.fK C.E=true) t es' (dQ w σ a pl)) (hp:st.putAt C.E.dp (.o t es') pl=some st') :
  ad C st' a w' σ:=by
 have hhk:∀ k,st.box C.E.dp k≠none→w'.heap[σ.κ k]? =w.heap[σ.κ k]? :=by
  intro k hb'
  obtain ⟨cs',hcs'⟩:=Option.ne_none_iff_exists'.1 hb'
  obtain ⟨vs',T',hB'⟩:=h.bx k cs' hcs'
  exact (hs.blk _ _ hB'.ow (by cases pl<;>simp [Pl.nS])).1
 have hpvs:∀ p r,st.rowAt C.E.dp p=some r→dQ w' σ a p=dQ w σ a p:=by
  intro p r hr
  cases p with
  | s d=>rfl
  | c k off=>
   have:st.box C.E.dp k≠none:=fun e=>by simp [St.rowAt,e] at hr
   simp only [dQ,hhk k this]
 cases pl with
 | s d=>
  obtain rfl:=Option.some.inj hp
  have hd:aj st.fr d= .o t es:=by
   simp only [St.rowAt] at hrow
   split at hrow
   ·rename_i t' es' hx;rw [hx];simp at hrow;rw [hrow.1,hrow.2]
   ·cases hrow
  have hr2:∀ p t2 es2,(st.bR d (.o t es')).rowAt C.E.dp p=some (t2,es2)→∃ es0,st.rowAt C.E.dp p=some (t2,es0)∧es0.length=es2.length:=by
   intro p t2 es2 hr
   cases p with
   | s d2=>
    simp only [St.rowAt,St.bR,oO] at hr
    by_cases hdd:d=d2
    ·subst hdd
     simp only [if_true,Option.some.injEq,Prod.mk.injEq] at hr
     exact ⟨es,by rw [hrow,hr.1],by rw [←hr.2,hlen]⟩
    ·simp only [if_neg hdd] at hr
     exact ⟨es2,hr,rfl⟩
   | c k off=>exact ⟨es2,hr,rfl⟩
  refine ⟨h.size,h.defers.same hs (by simp [Pl.nS]),fun d'=>?_,fun k cs hk=>?_,h.hpd,hs.own,hs.dn,fun b hb=>h.new b (Nat.le_trans hs.size hb),h.lay.aH hs.up hs.ba⟩
  ·simp only [St.bR,oO]
   by_cases hdd:d=d'
   ·subst hdd
    rw [if_pos rfl]
    exact OwnAt.AL hnew fun _=>rfl
   ·rw [if_neg hdd]
    have hx:=h.fr d'
    generalize aj st.fr d'=x at hx ⊢
    cases x with
    | o t2 es2=>exact OwnAt.same hs (by simp [Pl.nS];exact fun e=>hdd e.symm) hx
    | r p=>
     intro hsm
     obtain ⟨⟨t2,es2⟩,hr⟩:=Option.isSome_iff_exists.1 hsm
     obtain ⟨es0,h2,_⟩:=hr2 p t2 es2 hr
     rw [hpvs p _ h2]
     exact hx (by rw [h2];rfl)
    | v p lo len=>
     intro t2 es2 hr hll
     obtain ⟨es0,h2,h3⟩:=hr2 p t2 es2 hr
     rw [hpvs p _ h2]
     exact hx t2 es0 h2 (by omega)
    | q p i sz off=>
     intro t2 es2 hr hll
     obtain ⟨es0,h2,h3⟩:=hr2 p t2 es2 hr
     rw [hpvs p _ h2]
     exact hx t2 es0 h2 (by omega)
    | w g t x=>exact nT.same hs (by simp [Pl.nS]) hx
    | ag cs' rs=>
     refine uv.to hx (fun c _ v hv=>VR.same hs hv) (fun q _ hr=>?_)
     obtain ⟨⟨t2,es2⟩,hr⟩:=Option.isSome_iff_exists.1 hr
     obtain ⟨es0,h2,_⟩:=hr2 (.s q.2) t2 es2 hr
     exact ⟨by rw [h2];rfl,rfl⟩
    | _=>exact VR.same hs hx
  ·obtain ⟨vs,T,hB⟩:=h.bx k cs hk
   exact ⟨vs,T,(hhk k (by rw [show st.box C.E.dp k=some cs from hk];simp)).trans hB.hh,hB.size,hB.ow,hB.wr,hB.one,fun off c hc=>CR.same hs (by simp [Pl.nS]) (hB.cell off c hc),hB.ty,hB.kb⟩
 | c k off=>
  simp only [St.rowAt] at hrow
  cases hb:st.box C.E.dp k with
  | none=>simp [hb] at hrow
  | some cs=>
   simp only [hb] at hrow
   have hco:cs[off]? =some (.o t es):=by
    split at hrow
    ·rename_i t' es' hx;rw [hx];simp at hrow;rw [hrow.1,hrow.2]
    ·cases hrow
   have hol:=bq hco
   simp only [St.putAt,hb,Option.some.injEq] at hp
   subst hp
   have hbox:=fun k'=>fX (cs':=cs.set off (.o t es')) hb k'
   have hr2:∀ p t2 es2,(st.aC C.E.dp k (cs.set off (.o t es'))).rowAt C.E.dp p=some (t2,es2)→∃ es0,st.rowAt C.E.dp p=some (t2,es0)∧es0.length=es2.length:=by
    intro p t2 es2 hr
    cases p with
    | s d2=>rw [pF] at hr;exact ⟨es2,hr,rfl⟩
    | c k' off'=>
     simp only [St.rowAt,hbox] at hr
     by_cases hk:k'=k
     ·subst hk
      simp only [if_true] at hr
      by_cases ho:off=off'
      ·subst ho
       rw [List.getElem?_set,if_pos rfl,if_pos hol] at hr
       simp only [Option.some.injEq,Prod.mk.injEq] at hr
       exact ⟨es,by simp only [St.rowAt,hb,hco,hr.1],by rw [←hr.2,hlen]⟩
      ·rw [List.getElem?_set,if_neg ho] at hr
       exact ⟨es2,by simp only [St.rowAt,hb];exact hr,rfl⟩
     ·simp only [if_neg hk] at hr
      exact ⟨es2,by simp only [St.rowAt];exact hr,rfl⟩
   refine ⟨h.size,h.defers.same hs (by simp [Pl.nS]),fun d'=>?_,fun k' cs' hk=>?_,fun k' cs' hk hc'=>?_,hs.own,hs.dn,fun b hb=>h.new b (Nat.le_trans hs.size hb),h.lay.aH hs.up hs.ba⟩
   ·rw [mK]
    have hx:=h.fr d'
    generalize aj st.fr d'=x at hx ⊢
    cases x with
    | o t2 es2=>exact OwnAt.same hs (by simp [Pl.nS]) hx
    | r p=>
     intro hsm
     obtain ⟨⟨t2,es2⟩,hr⟩:=Option.isSome_iff_exists.1 hsm
     obtain ⟨es0,h2,_⟩:=hr2 p t2 es2 hr
     rw [hpvs p _ h2]
     exact hx (by rw [h2];rfl)
    | v p lo len=>
     intro t2 es2 hr hll
     obtain ⟨es0,h2,h3⟩:=hr2 p t2 es2 hr
     rw [hpvs p _ h2]
     exact hx t2 es0 h2 (by omega)
    | q p i sz off=>
     intro t2 es2 hr hll
     obtain ⟨es0,h2,h3⟩:=hr2 p t2 es2 hr
     rw [hpvs p _ h2]
     exact hx t2 es0 h2 (by omega)
    | w g t x=>exact nT.same hs (by simp [Pl.nS]) hx
    | ag cs' rs=>
     refine uv.to hx (fun c _ v hv=>VR.same hs hv) (fun q _ hr=>?_)
     obtain ⟨⟨t2,es2⟩,hr⟩:=Option.isSome_iff_exists.1 hr
     obtain ⟨es0,h2,_⟩:=hr2 (.s q.2) t2 es2 hr
     exact ⟨by rw [h2];rfl,rfl⟩
    | _=>exact VR.same hs hx
   ·rw [hbox] at hk
    by_cases hkk:k'=k
    ·subst hkk
     simp only [if_true] at hk
     obtain rfl:=Option.some.inj hk
     obtain ⟨vs,T,hB⟩:=h.bx k' cs hb
     refine ⟨vs,T,(hhk k' (by simp [hb])).trans hB.hh,by simpa using hB.size,hB.ow,hB.wr,fun c hm=>?_,fun i c hi=>?_,fun t kk u ht=>?_,hB.kb⟩
     ·rcases List.mem_or_eq_of_mem_set hm with hm | rfl
      ·exact hB.one c hm
      ·exact .inl rfl
     ·rw [List.getElem?_set] at hi
      by_cases ho:off=i
      ·subst ho
       rw [if_pos rfl,if_pos hol] at hi
       obtain rfl:=Option.some.inj hi
       have:dQ w σ a (.c k' off)=vs.getD off undef:=by simp only [dQ,hB.hh]
       rw [this] at hnew
       exact hnew
      ·rw [if_neg ho] at hi
       exact CR.same hs (by simp [Pl.nS];exact fun e=>ho e.symm) (hB.cell i c hi)
     ·rcases List.mem_or_eq_of_mem_set ht with ht | ht
      ·simpa using hB.ty t kk u ht
      ·cases ht
    ·simp only [if_neg hkk] at hk
     obtain ⟨vs,T,hB⟩:=h.bx k' cs' hk
     exact ⟨vs,T,(hhk k' (by simp [hk])).trans hB.hh,hB.size,hB.ow,hB.wr,hB.one,fun i c hi=>CR.same hs (by simp [Pl.nS];exact fun e=>absurd e hkk) (hB.cell i c hi),hB.ty,hB.kb⟩
   ·by_cases hkd:k.dp=C.E.dp
    ·simp only [St.aC,hkd,if_true] at hc'
     exact h.hpd k' cs' hk hc'
    ·simp only [St.aC,if_neg hkd,ab] at hc'
     split at hc'
     ·rename_i hkk
      subst hkk
      obtain rfl:=Option.some.inj hc'
      have hold:=h.hpd k' cs hk (by simpa [St.box,hkd] using hb)
      refine ⟨hold.1,fun c hm=>?_⟩
      rcases List.mem_or_eq_of_mem_set hm with hm | rfl
      ·exact hold.2 c hm
      ·rfl
     ·exact h.hpd k' cs' hk hc'
end
variable [aY]
section
variable {C:Cx}{st:St}{a:Act}{w:World}{σ:Sp}{o:Oper}{d:Option Nat}{R:Rec}{Ω:cm}{r:AV×St}
theorem ad.relabel{g:Nat}{L M:cQ}(h:ad C st a w σ)(hg:σ.ow g=some L)(hi:Idle C st (some L)):ad C st a w (σ.add g (some M)):=by
 refine h.GI (L:=some L) ⟨fun b l hb hl=>⟨rfl,?_⟩,fun _ _=>rfl,fun _ h=>h,rfl,Nat.le_refl _,fun b l hb=>?_,fun b hb=>?_⟩ hi
 ·have:b≠g:=fun e=>hl (by subst e;rw [←hb,hg])
  simp only [Sp.add,if_neg this,hb]
 ·simp only [Sp.add] at hb
  split at hb
  ·rename_i e;subst e;exact h.own _ _ hg
  ·exact h.own b l hb
 ·obtain ⟨h1,h2⟩:=h.ba b hb
  have:b≠g:=fun e=>by subst e;rw [hg] at h2;cases h2
  exact ⟨h1,by simp only [Sp.add,if_neg this,h2]⟩
theorem bN.relabel{g:Nat}{L:Option cQ}(hW:C.W g):bN C w σ w (σ.add g L):=
 ⟨Nat.le_refl _,fun _ _ _=>rfl,fun _ h=>h,fun _ _=>rfl,fun _ h=>.inl h,fun _ _=>rfl,fun b _ hb=>if_neg (fun e=>hb (by rw [e];exact hW)),rfl,rfl⟩
theorem dT.relabel{P:Program}{W:Nat→Prop}{L M:cQ}{wp:Prop}{t:TypeId}{es:List AV}{g cap:Nat}{cs:Array Value}(h:dT P W w σ L wp t es g cap cs):dT P W w (σ.add g (some M)) M wp t es g cap cs:=
 ⟨by simp [Sp.add],h.wr,h.hh,h.pos,h.nc,h.ecap,h.max,h.size,h.pure,h.one,h.cell,h.base⟩
theorem ad.take{L M:cQ}{wp:Prop}{t:TypeId}{es:List AV}{v:Value}(h:ad C st a w σ)(ho:OwnAt C.P C.W w σ L wp t es v)(hwp:wp)(hi:Idle C st (some L)) :
  ∃ σ',ad C st a w σ'∧OwnAt C.P C.W w σ' M wp t es v∧bN C w σ w σ'∧σ'.κ=σ.κ:=by
 rcases ho with ⟨h1,h2⟩ | ⟨g,cap,cs,hv,hR⟩
 ·exact ⟨σ,h,.inl ⟨h1,h2⟩,.refl _ _ _,rfl⟩
 ·exact ⟨_,h.relabel hR.ow hi,.inr ⟨g,cap,cs,hv,hR.relabel⟩,.relabel (hR.wr hwp),rfl⟩
theorem dT.short{P:Program}{W:Nat→Prop}{L:cQ}{wp:Prop}{t:TypeId}{es:List AV}{g cap:Nat}{cs:Array Value}(h:dT P W w σ L wp t es g cap cs)(n:Nat):dT P W w σ L wp t (es.take n) g cap cs:=
 ⟨h.ow,h.wr,h.hh,h.pos,fun e he=>h.nc e (List.mem_of_mem_take he),by have:=h.ecap;simp;omega,h.max,h.size,fun e he=>h.pure e (List.mem_of_mem_take he),fun e he=>h.one e (List.mem_of_mem_take he),
  fun j e m c hj hm=>h.cell j e m c (by rw [List.getElem?_take] at hj;split at hj;exact hj;cases hj) hm,h.base⟩
theorem OwnAt.short{P:Program}{W:Nat→Prop}{L:cQ}{wp:Prop}{t:TypeId}{es:List AV}{v v':Value}{len sz:Nat}(h:OwnAt P W w σ L wp t es v)(hl:len≤es.length)
  (hv:∃ A n cap,v= .slice A n cap∧v'= .slice (if cap=0 then A else A.map (·.add (0*sz))) len (cap - 0)):OwnAt P W w σ L wp t (es.take len) v':=by
 obtain ⟨A,n,cap,h1,h2⟩:=hv
 have hA:(if cap=0 then A else A.map (·.add (0*sz)))=A:=by
  split
  ·rfl
  ·rw [Nat.zero_mul]
   cases A with
   | none=>rfl
   | some x=>simp [Addr.add]
 rw [hA,Nat.sub_zero] at h2
 have hlen:(es.take len).length=len:=by simp;omega
 rcases h with ⟨rfl,hv⟩ | ⟨g,cap',cs,hv,hR⟩
 ·simp only [List.length_nil] at hl
  obtain rfl:len=0:=by omega
  refine .inl ⟨by simp,?_⟩
  rw [hv] at h1
  simp only [Value.slice.injEq] at h1
  rw [h2,←h1.1,←h1.2.2]
 ·rw [hv] at h1
  simp only [Value.slice.injEq] at h1
  exact .inr ⟨g,cap',cs,by rw [h2,←h1.1,←h1.2.2,hlen],hR.short len⟩
theorem LM(st:St)(pl:Pl)(d:Nat):aj (st.aL pl).fr d= .u∨aj (st.aL pl).fr d=aj st.fr d:=by
 simp only [St.aL,lF]
 split
 ·exact .inl rfl
 ·exact .inr rfl
theorem jO(st:St)(d d':Nat)(x:AV):aj (st.bR d x).fr d'=if d=d' then x else aj st.fr d':=rfl
theorem ad.Iw(h:ad C st a w σ)(n:Nat):ad C (st.bR n .u) a w σ:=
 h.forget (fun d=>by rw [jO];split;exact .inl rfl;exact .inr rfl) (fun _ _ h=>h) rfl
theorem tW{n:Nat}(hn:∀ t es,aj st.fr n≠.o t es):Idle C st (some (.rowS C.E.dp n)):=
 ⟨fun d t es hd e=>by simp at e;subst e;exact hn _ _ hd,fun _ _ _=>by simp,fun _ _ _ _ _ _ _=>by simp,fun _=>by simp,by simp⟩
theorem zC{pl:Pl}{n:Nat}(hn:∀ t es,aj st.fr n≠.o t es):∀ t es,aj (st.aL pl).fr n≠.o t es:=by
 intro t es
 rcases LM st pl n with e | e
 ·rw [e];simp
 ·rw [e];exact hn t es
theorem VV{x:aO}(h:ad C st a w σ)(hl:aV C.P (.as x) o.op=true)(he:execOp R Ω C.E st d (.as x)=some r) :
  cX C o d a w σ r.2 r.1:=by
 obtain ⟨y,hop,hlo⟩:∃ y,o.op= .assign y∧bh y x=true:=by
  simp only [aV] at hl;split at hl
  ·rename_i y hy;exact ⟨y,hy,hl⟩
  ·cases hl
 have hr:(Go.execOp a.eval o).run C.P w= .ok (.value (a.eval y)) w:=by unfold Go.execOp;simp [hop]
 cases x with
 | c z=>
  simp only [execOp] at he
  split at he
  ·rename_i hp
   obtain rfl:=Option.some.inj he
   exact .quiet h hr (cH z hp) (h.su (x:=.c z) hlo (cH z hp))
  ·cases he
 | t n=>
  have hs:=h.slot hlo
  simp only [execOp] at he
  have hgen:∀ z,aj st.fr n=z→(∀ t es,z≠.o t es)→r=(z,st)→cX C o d a w σ r.2 r.1:=by
   intro z hz hno hre
   subst hre
   rw [hz] at hs
   exact .wg h hr hno fun dd=>NB hno hs
  split at he
  ·rename_i t es hx
   obtain ⟨dd,hdd,he⟩:=Option.bind_eq_some_iff.1 he
   obtain rfl:=Option.some.inj he
   rw [hx] at hs
   have h1:=(h.Iw n).aL (.s dd)
   have hn:∀ t es,aj ((st.bR n .u).aL (.s dd)).fr n≠.o t es:=
    zC (fun t es=>by rw [jO,if_pos rfl];simp)
   obtain ⟨σ',hc,ho,hst,_⟩:=h1.take (M:=.rowS C.E.dp dd) hs trivial (tW hn)
   refine .iN hr ⟨hst,hc,fun d2 hd2=>?_,fun d2 t2 es2 hd2 _ d'=>?_⟩
   ·rw [hdd] at hd2;obtain rfl:=Option.some.inj hd2;exact ho
   ·rw [hdd] at hd2;obtain rfl:=Option.some.inj hd2;exact iM _ _ _
  ·rename_i pl lo len hx
   obtain ⟨dd,hdd,he1⟩:=Option.bind_eq_some_iff.1 he
   clear he
   split at he1
   ·rename_i hc
    simp only [Bool.and_eq_true,decide_eq_true_eq,beq_iff_eq] at hc
    obtain ⟨hpl,hlo0⟩:=hc
    obtain ⟨⟨t,es⟩,hrow,he2⟩:=Option.bind_eq_some_iff.1 he1
    clear he1
    simp only at he2
    split at he2
    ·rename_i hle
     obtain rfl:=Option.some.inj he2
     rw [hx] at hs
     subst hlo0
     have hv:=hs t es hrow (by omega)
     subst hpl
     have ho:=(h.row hrow).short hle hv
     refine .iN hr ⟨.refl _ _ _,h.aL _,fun d2 hd2=>?_,fun d2 t2 es2 hd2 _ d'=>?_⟩
     ·rw [hdd] at hd2;obtain rfl:=Option.some.inj hd2;exact ho.AL fun _=>rfl
     ·rw [hdd] at hd2;obtain rfl:=Option.some.inj hd2;exact iM _ _ _
    ·cases he2
   ·exact hgen _ hx (fun _ _ e=>by cases e) (Option.some.inj he1).symm
  ·rename_i hno hnv
   split at he
   ·exact hgen _ rfl (fun t es e=>hno t es e) (Option.some.inj he).symm
   ·cases he
theorem E1{x:AV}(h:x.copy=true):∀ c∈x.cl,c.copy=true:=by
 intro c hc
 cases x<;>simp only [AV.cl,List.mem_singleton] at hc<;>first | (subst hc;exact h) | skip
 exact wD (by simpa [AV.copy] using h) c hc
theorem RQ{n:Nat}{x:AV}(h:x.deep n=true):∀ c∈x.cl,c.deep n=true:=by
 intro c hc
 cases x<;>simp only [AV.cl,List.mem_singleton] at hc<;>first | (subst hc;exact h) | skip
 exact kZ (by simpa [AV.deep] using h) c hc
theorem ZR{k:Key}{off:Nat}{c:AV}{v:Value}(hc:c.copy=true)(h:VR w σ.I σ.κ c v):CR C w σ k off c v:=by
 cases c<;>first | exact h | (simp [AV.copy] at hc)
theorem OwnAt.isSlice{P:Program}{W:Nat→Prop}{L:cQ}{wp:Prop}{t:TypeId}{es:List AV}{v:Value}(h:OwnAt P W w σ L wp t es v):v.cells=#[v]∧v.oneCell'=true:=by
 rcases h with ⟨_,rfl⟩ | ⟨g,cap,cs,rfl,_⟩<;>exact ⟨rfl,rfl⟩
theorem ad.Ix{k:Key}{cs:List AV}{off:Nat}{t:TypeId}{es:List AV}{v:Value}(h:ad C st a w σ)(hb:st.box C.E.dp k=some cs)(hlt:off<cs.length)
  (hm:(Pl.c k off).fK C.E=true) (ho:OwnAt C.P C.W w σ (.rowC k off) True t es v) (hbor:∀ d,(aj st.fr d).fe (.c k off)=false) {T:TypeId} (hsz:sized C.P T 1=true) :
  ∃ w',(Instr.storeAt T (.pointer (some ⟨σ.κ k,off,none⟩)) v).run C.P w= .ok () w'∧ad C (st.aC C.E.dp k (cs.set off (.o t es))) a w' σ∧bN C w σ w' σ:=by
 obtain ⟨vs,T',hB⟩:=h.bx k cs hb
 obtain ⟨hc1,hc2⟩:=ho.isSlice
 refine ⟨_,xx (n:=1) hB.hh hsz (by rw [hc1];rfl) (by have:=hB.size;omega) (fun u hu=>?_),?_,.setRow h hB.ow (hB.wr hm) _⟩
 ·rw [hc1] at hu
  have:u=v:=by simpa using hu
  rw [this];exact hc2
 ·rw [Iv _ _ _ hlt,hc1]
  refine h.Iu hb hB (by simp) (by simp only [List.length_singleton];omega) (fun c hc=>?_) (fun j c hj=>?_) (fun j t' es' hj=>?_) (fun _ c hc=>?_) (fun t' _ _ ht=>by simp at ht)
  ·have:c= .o t es:=by simpa using hc
   rw [this];rfl
  ·cases j with
   | zero=>
    have:AV.o t es=c:=by simpa using hj
    subst this
    exact ho.AL fun _=>trivial
   | succ j=>simp at hj
  ·cases j with
   | zero=>exact hbor
   | succ j=>simp at hj
  ·have:c= .o t es:=by simpa using hc
   rw [this];rfl
theorem VW{n:Nat}{x y:aO}(h:ad C st a w σ)(hl:aV C.P (.st n x y) o.op=true)(he:execOp R Ω C.E st d (.st n x y)=some r) :
  cX C o d a w σ r.2 r.1:=by
 obtain ⟨t,x',y',hop,hlx,hly,hsz⟩:∃ t x' y',o.op= .store t x' y'∧bh x' x=true∧bh y' y=true∧sized C.P t n=true:=by
  simp only [aV] at hl;split at hl
  ·rename_i t x' y' hy
   simp only [Bool.and_eq_true] at hl
   exact ⟨_,_,_,hy,hl.1.1,hl.1.2,hl.2⟩
  ·cases hl
 have hrun:∀ g off w',a.eval x'= .pointer (some ⟨g,off,none⟩)→(Instr.storeAt t (.pointer (some ⟨g,off,none⟩)) (a.eval y')).run C.P w= .ok () w'→
   (Go.execOp a.eval o).run C.P w= .ok .skip w':=by
  intro g off w' hv hr
  unfold Go.execOp
  simp [hop,hv,hr]
 have hfin:∀ {w' σ' st'},(Go.execOp a.eval o).run C.P w= .ok .skip w'→bN C w σ w' σ'→ad C st' a w' σ'→cX C o d a w σ st' .u:=fun hr hs hc=>
  .RN hr ⟨hs,hc,fun _ _=>VR.u _,fun _ _ _ _ e=>by cases e⟩
 simp only [execOp] at he
 split at he
 ·rename_i k off hx
  have hv:=(hx▸h.dR hlx (by rw [hx];simp) (by rw [hx];rfl)).uY
  split at he
  ·rename_i hmine
   obtain ⟨cs,hbx,he1⟩:=Option.bind_eq_some_iff.1 he
   clear he
   obtain ⟨vs,T,hB⟩:=h.bx k cs hbx
   have hWk:C.W (σ.κ k):=hB.wr hmine
   split at he1
   ·rename_i t' es hy
    split at he1
    ·rename_i m
     split at he1
     ·rename_i hc
      simp only [Bool.and_eq_true,beq_iff_eq,decide_eq_true_eq] at hc
      obtain ⟨hn1,hlt⟩:=hc
      obtain rfl:=Option.some.inj he1
      have hs:=h.slot hly
      have hy':aj st.fr m= .o t' es:=hy
      rw [hy'] at hs
      have h1:=(h.Iw m).aL (.c k off)
      have hn:∀ t es,aj ((st.bR m .u).aL (.c k off)).fr m≠.o t es:=
       zC (fun t es=>by rw [jO,if_pos rfl];simp)
      obtain ⟨σ',hc,ho,hst,hkap⟩:=h1.take (M:=.rowC k off) hs trivial (tW hn)
      have hbx':((st.bR m .u).aL (.c k off)).box C.E.dp k=some cs:=hbx
      obtain ⟨w',hr,hc',hst'⟩:=hc.Ix hbx' hlt hmine ho (fun d=>iM _ _ _) (hn1▸hsz)
      rw [hkap] at hr
      exact hfin (hrun _ _ _ hv hr) (hst.trans hst') hc'
     ·cases he1
    ·cases he1
   ·rename_i pl lo len hy
    split at he1
    ·rename_i hc
     simp only [Bool.and_eq_true,beq_iff_eq,decide_eq_true_eq] at hc
     obtain ⟨⟨hpl,hlo0⟩,hn1⟩:=hc
     obtain ⟨⟨t',es⟩,hrow,he2⟩:=Option.bind_eq_some_iff.1 he1
     clear he1
     simp only at he2
     split at he2
     ·rename_i hle
      obtain rfl:=Option.some.inj he2
      obtain ⟨m,rfl,hm⟩:=cS hy rfl hly
      have hs:=h.slot hly
      rw [hm] at hs
      subst hlo0
      have hvv:=hs t' es hrow (by omega)
      subst hpl
      have ho:=(h.row hrow).short hle hvv
      have hlt:off<cs.length:=by
       have hbx2:st.box C.E.dp k=some cs:=hbx
       simp only [St.rowAt,hbx2] at hrow
       split at hrow
       ·rename_i hx;exact bq hx
       ·cases hrow
      obtain ⟨w',hr,hc',hst'⟩:=(h.aL (.c k off)).Ix (show (st.aL (.c k off)).box C.E.dp k=some cs from hbx) hlt hmine (ho.AL fun _=>hmine) (fun d=>iM _ _ _) (hn1▸hsz)
      exact hfin (hrun _ _ _ hv hr) hst' hc'
     ·cases he2
    ·cases he1
   ·split at he1
    ·rename_i hc
     simp only [Bool.and_eq_true,beq_iff_eq,decide_eq_true_eq] at hc
     obtain ⟨⟨⟨⟨hcp,hnc⟩,hone⟩,hdeep⟩,hle⟩:=hc
     obtain rfl:=Option.some.inj he1
     have h1:∀ c∈(st.ev y).cl,c.one=true:=fun c hc=>List.all_eq_true.1 hone c hc
     obtain ⟨hlen,hcell⟩:=(h.su hly hcp).cells h1
     have hnc':(st.ev y).cl.length=n:=hnc
     refine hfin (hrun _ _ _ hv (xx (n:=n) hB.hh hsz (by omega) (by have:=hB.size;omega) (fun u hu=>?_))) (.setRow h hB.ow hWk _) ?_
     ·obtain ⟨m,hm⟩:=List.mem_iff_getElem?.1 hu
      have hml:m<(st.ev y).cl.length:=by have:=bq hm;simp at this;omega
      have:=hcell m _ (List.getElem?_eq_getElem hml)
      have e:(a.eval y').cells.getD m undef=u:=by
       rw [Array.getElem?_toList] at hm
       simp [Array.getD_eq_getD_getElem?,hm]
      rw [e] at this
      exact this.EY (h1 _ (List.getElem_mem hml))
     ·refine h.Iu hbx hB (by simpa using hlen) (by omega) h1 (fun j c hj=>?_) (fun j t' es' hj=>?_) (fun _ c hc=>RQ hdeep c hc) (fun t' _ _ ht=>by have:=E1 hcp _ ht;cases this)
      ·have:=hcell j c hj
       refine ZR (E1 hcp c (List.mem_of_getElem? hj)) ?_
       simpa [Array.getD_eq_getD_getElem?] using this
      ·have:=E1 hcp _ (List.mem_of_getElem? hj)
       simp [AV.copy] at this
    ·cases he1
  ·cases he
 ·rename_i pl i sz off hx
  split at he
  ·rename_i hmine
   obtain ⟨⟨t',es⟩,hrow,he1⟩:=Option.bind_eq_some_iff.1 he
   clear he
   obtain ⟨e,hee,he2⟩:=Option.bind_eq_some_iff.1 he1
   clear he1
   simp only at he2
   split at he2
   ·rename_i hc
    simp only [Bool.and_eq_true,beq_iff_eq,decide_eq_true_eq] at hc
    obtain ⟨⟨⟨⟨hsz',hpu⟩,hnc⟩,hone⟩,hle⟩:=hc
    obtain ⟨st',hput,he3⟩:=Option.bind_eq_some_iff.1 he2
    clear he2
    obtain rfl:=Option.some.inj he3
    have hlt:i<es.length:=bq hee
    obtain ⟨m,rfl,hm⟩:=cS hx rfl hlx
    obtain ⟨g,n',cap,hpv,hv⟩:=(hm▸h.slot hlx) t' es hrow hlt
    obtain ⟨g',cap',cs,hpv',hR⟩:=h.y4 hrow (fun e=>by subst e;simp at hlt)
    obtain ⟨rfl,rfl,rfl⟩:g=g'∧n'=es.length∧cap=cap':=by
     rw [hpv] at hpv';simpa using hpv'
    have hem:=List.mem_of_getElem? hee
    have hszz:sz=C.P.cellsOf t':=hsz'.symm.trans (hR.nc e hem)
    subst hszz
    have h1:∀ c∈(st.ev y).cl,c.one=true:=fun c hc=>List.all_eq_true.1 hone c hc
    obtain ⟨hlen,hcell⟩:=(h.su hly (cH _ hpu)).cells h1
    have hnc':(st.ev y).cl.length=n:=hnc
    have hle':i*C.P.cellsOf t'+off+n≤cs.size:=by
     rw [hR.size]
     have:(i+1)*C.P.cellsOf t'≤cap*C.P.cellsOf t':=Nat.mul_le_mul_right _ (by have:=hR.ecap;omega)
     rw [Nat.add_mul] at this
     omega
    have hsame:=fj.setRow h hR.ow (pY cs (i*C.P.cellsOf t'+off) (a.eval y').cells.toList)
    refine hfin (hrun _ _ _ hv (xx (n:=n) hR.hh hsz (by omega) hle' (fun u hu=>?_))) (.setRow h hR.ow (hR.wr hmine) _) ?_
    ·obtain ⟨m,hm⟩:=List.mem_iff_getElem?.1 hu
     have hml:m<(st.ev y).cl.length:=by have:=bq hm;simp at this;omega
     have:=hcell m _ (List.getElem?_eq_getElem hml)
     have e:(a.eval y').cells.getD m undef=u:=by
      rw [Array.getElem?_toList] at hm
      simp [Array.getD_eq_getD_getElem?,hm]
     rw [e] at this
     exact this.EY (h1 _ (List.getElem_mem hml))
    ·refine h.putRow hrow (by simp) hsame (.inr ⟨g,cap,_,by rw [hpv];simp,hR.put hsame hee (by simpa using hlen) (by omega) h1 (iQ hpu) fun m c hm=>?_⟩) hput
     simpa [Array.getD_eq_getD_getElem?] using hcell m c hm
   ·cases he2
  ·cases he
 ·cases he
end
variable [aY]
section
variable {C:Cx}{st:St}{a:Act}{w:World}{σ:Sp}{o:Oper}{d:Option Nat}{R:Rec}{Ω:cm}{r:AV×St}
theorem VR.wi{w w':World}{I I':Nat→Prop}{κ κ':Key→Nat}{x:AV}{v:Value}(h:VR w I κ x v)(hI:∀ b,I b→I' b)(hh:∀ b,I b→w'.heap[b]? =w.heap[b]?)(hp:x.pure=true):VR w' I' κ' x v:=
 h.mono hI hh fun k hk=>by rw [ic x hp] at hk;cases hk
theorem ad.newRow(h:ad C st a w σ){L:cQ}{t:TypeId}{es:List AV}{cap:Nat}{cs:Array Value}(hpos:0<C.P.cellsOf t)(hnc:∀ e∈es,e.nc=C.P.cellsOf t)(hcap:es.length≤cap)(hmax:cap≤maxLen)
  (hsize:cs.size=cap*C.P.cellsOf t) (hp:∀ e∈es,e.pure=true) (h1:∀ e∈es,∀ c∈e.cl,c.one=true)
  (hc:∀ (j:Nat)(e:AV)(m:Nat)(c:AV),es[j]? =some e→e.cl[m]? =some c→VR w σ.I σ.κ c (cs.getD (j*C.P.cellsOf t+m) undef)) :
  ∃ σ',bN C w σ (w.alloc (.cells cs t)) σ'∧ad C st a (w.alloc (.cells cs t)) σ'∧OwnAt C.P C.W (w.alloc (.cells cs t)) σ' L True t es (.slice (some ⟨w.heap.size,0,none⟩) es.length cap)∧σ'.κ=σ.κ:=by
 have hs:=fj.alloc h (.cells cs t) (some L)
 refine ⟨_,bN.alloc h _ (some L),h.same hs,.inr ⟨w.heap.size,cap,cs,rfl,by simp [Sp.add],fun _=>(h.new _ (Nat.le_refl _)).1,heap_alloc_new w _,hpos,hnc,hcap,hmax,hsize,hp,h1,fun j e m c he hm=>VR.same hs (hc j e m c he hm),(h.new _ (Nat.le_refl _)).2⟩,rfl⟩
theorem ad.drew(h:ad C st a w σ):ad C st a w.drew σ:=
 h.same ⟨fun _ _ hb _=>⟨rfl,hb⟩,fun _ _=>rfl,fun _ h=>h,rfl,Nat.le_refl _,h.own,h.ba⟩
theorem bN.drew{w':World}{σ':Sp}(h:bN C w.drew σ w' σ'):bN C w σ w' σ':=⟨h.size,h.aH,h.up,h.ba,h.dn,h.kap,h.ow,h.io⟩
theorem FU(h:ad C st a w σ){sz:Nat} :
  ∀ (ps:List (Nat×Operand))(xs:List aO)(i:Nat)(vs:Array Value),ps.map (·.1)=List.range' i ps.length→ee (ps.map (·.2)) xs=true→i*sz+xs.length*sz≤vs.size→
   (∀ x∈xs,(st.ev x).copy=true∧(st.ev x).nc=sz∧∀ c∈(st.ev x).cl,c.one=true)→
   ∃ vs',Instr.fill (fun i=>some (i*sz,sz)) vs (ps.map fun p=>(p.1,a.eval p.2))=some vs'∧vs'.size=vs.size∧(∀ j,j<i*sz→vs'[j]? =vs[j]?)∧
    ∀ (j:Nat)(x:aO)(m:Nat)(c:AV),xs[j]? =some x→(st.ev x).cl[m]? =some c→VR w σ.I σ.κ c (vs'.getD ((i+j)*sz+m) undef)
 | [],[],i,vs,_,_,_,_=>⟨vs,rfl,rfl,fun _ _=>rfl,fun j x m c hj=>by simp at hj⟩
 | (i',y)::ps,x::xs,i,vs,hi,hl,hle,hq=>by
  simp only [List.map_cons,List.length_cons,List.range'_succ,List.cons.injEq] at hi
  obtain ⟨rfl,hi⟩:=hi
  simp only [List.map_cons,ee,Bool.and_eq_true] at hl
  obtain ⟨hlo,hrest⟩:=hl
  obtain ⟨hcp,hnc,h1⟩:=hq x (by simp)
  obtain ⟨hcl,hcc⟩:=(h.su hlo hcp).cells h1
  have hnc':(st.ev x).cl.length=sz:=hnc
  have hcs:(a.eval y).cells.size=sz:=by omega
  simp only [List.length_cons,Nat.add_mul,Nat.one_mul] at hle
  have hlt:¬(i'*sz+sz>vs.size):=by omega
  have hval:=AO (i'*sz) (a.eval y).cells.toList 0 vs (by simp;omega)
  have hsz2:=zc (i'*sz) ((a.eval y).cells.toList.zipIdx) vs (fun z hz=>by
   have:=List.snd_lt_of_mem_zipIdx hz
   simp at this;omega)
  have hfold:(a.eval y).cells.zipIdx.foldl (fun cs x=>cs.setIfInBounds (i'*sz+x.2) x.1) vs=(a.eval y).cells.toList.zipIdx.foldl (fun cs x=>cs.setIfInBounds (i'*sz+x.2) x.1) vs:=by
   rw [←Array.toList_zipIdx,Array.foldl_toList]
  generalize hvs2:(a.eval y).cells.toList.zipIdx.foldl (fun cs x=>cs.setIfInBounds (i'*sz+x.2) x.1) vs=vs2 at hval hsz2 hfold
  obtain ⟨vs',hfill,hsize,hold,hnew⟩:=FU h ps xs (i'+1) vs2 hi hrest (by rw [hsz2,Nat.add_mul,Nat.one_mul];omega) (fun z hz=>hq z (by simp [hz]))
  refine ⟨vs',?_,hsize.trans hsz2,fun j hj=>?_,fun j z m c hj hm=>?_⟩
  ·simp only [List.map_cons,Instr.fill,hcs,ne_eq,not_true_eq_false,decide_false,Bool.false_or,hlt,Bool.false_eq_true,if_false]
   rw [hfold]
   exact hfill
  ·rw [hold j (by rw [Nat.add_mul];omega),hval,if_neg (by omega)]
  ·cases j with
   | zero=>
    obtain rfl:x=z:=by simpa using hj
    have hml:=bq hm
    have:=hcc m c hm
    rw [Array.getD_eq_getD_getElem?,Nat.add_zero,hold _ (by rw [Nat.add_mul];omega),hval,if_pos (by simp;omega)]
    rw [show i'*sz+m - i'*sz - 0=m by omega]
    simpa [Array.getD_eq_getD_getElem?] using this
   | succ j=>
    have:=hnew j z m c (by simpa using hj) hm
    rwa [show i'+1+j=i'+(j+1) by omega] at this
 | [],_::_,_,_,_,hl,_,_=>by simp [ee] at hl
 | _::_,[],_,_,_,hl,_,_=>by simp [ee] at hl
theorem ad.rH{σ':Sp}{w':World}{st':St}{dd:Nat}{t:TypeId}{es:List AV}{cv:Value}(hdd:d=some dd)(hs:bN C w σ w' σ')(hc:ad C (st'.aL (.s dd)) a w' σ')(ho:OwnAt C.P C.W w' σ' (.rowS C.E.dp dd) True t es cv) :
  FP C (st'.aL (.s dd)) a w σ d (.o t es) cv w' σ':=by
 refine ⟨hs,hc,fun d2 hd2=>?_,fun d2 _ _ hd2 _ d'=>?_⟩
 ·rw [hdd] at hd2;obtain rfl:=Option.some.inj hd2;exact ho
 ·rw [hdd] at hd2;obtain rfl:=Option.some.inj hd2;exact iM _ _ _
theorem wj{P:Program}{ty t:TypeId}(h:iZ P ty=some t):P.underlying ty=some (.slice t):=by
 unfold iZ at h
 split at h
 ·rename_i e hu;rw [hu];simp at h;rw [h]
 ·cases h
theorem VX{t sz:Nat}{xs:List aO}(h:ad C st a w σ)(hl:aV C.P (.bs t sz xs) o.op=true)(he:execOp R Ω C.E st d (.bs t sz xs)=some r) :
  cX C o d a w σ r.2 r.1:=by
 simp only [aV] at hl
 split at hl
 ·rename_i ty len parts hop
  simp only [Bool.and_eq_true,beq_iff_eq,decide_eq_true_eq] at hl
  obtain ⟨⟨⟨⟨⟨⟨hty,hsz⟩,hlen⟩,hidx⟩,hlo⟩,hbig⟩,hz⟩:=hl
  split at hz
  ·rename_i zv hzv
   have hzs:zv.cells.size=sz:=by simpa using hz
   have hu:=wj hty
   obtain ⟨i,hi,hiz⟩:=uZ hzv
   obtain ⟨_,hcells,hpos⟩:=mJ hsz
   have hisz:i.size=sz:=by rw [←hcells];simp [Program.cellsOf,hi]
   simp only [execOp] at he
   obtain ⟨dd,hdd,he1⟩:=Option.bind_eq_some_iff.1 he
   clear he
   split at he1
   ·rename_i hall
    obtain rfl:=Option.some.inj he1
    have hall':∀ x∈xs,(st.ev x).pure=true∧(st.ev x).nc=sz∧∀ c∈(st.ev x).cl,c.one=true:=by
     intro x hx
     have:=List.all_eq_true.1 hall (st.ev x) (List.mem_map_of_mem hx)
     simp only [Bool.and_eq_true,beq_iff_eq] at this
     exact ⟨this.1.1,this.2,fun c hc=>List.all_eq_true.1 this.1.2 c hc⟩
    have hpl:parts.toList.length=len:=by simpa using congrArg List.length hidx
    have hxl:xs.length=len:=hlen.symm
    let vs:Array Value:=if len*sz=0 then #[] else (Array.range (len*sz)).map (zv.cells[· % zv.cells.size]!)
    have hvs:vs.size=len*sz:=by
     by_cases h0:len*sz=0<;>simp [vs,h0]
    obtain ⟨vs',hfill,hsize,_,hnew⟩:=FU h (sz:=sz) parts.toList xs 0 vs (by rw [hidx,hpl,List.range_eq_range']) hlo (by rw [hvs,hxl];omega) (fun x hx=>⟨cH _ (hall' x hx).1,(hall' x hx).2⟩)
    have hmem:∀ e∈xs.map st.ev,e.pure=true∧e.nc=sz∧∀ c∈e.cl,c.one=true:=by
     intro e he
     obtain ⟨x,hx,rfl⟩:=List.mem_map.1 he
     exact hall' x hx
    obtain ⟨σ',hst,hc,ho,_⟩:=(h.aL (.s dd)).newRow (L:=.rowS C.E.dp dd) (t:=t) (es:=xs.map st.ev) (cap:=len) (cs:=vs') (by omega) (fun e he=>by rw [hcells];exact (hmem e he).2.1) (by simp [hxl]) (by simp [maxLen];have:=Nat.le_mul_of_pos_right len hpos;omega)
     (by rw [hsize,hvs,hcells]) (fun e he=>(hmem e he).1) (fun e he=>(hmem e he).2.2) (fun j e m c hj hm=>by
      rw [List.getElem?_map] at hj
      cases hx:xs[j]? with
      | none=>simp [hx] at hj
      | some x=>
       obtain rfl:st.ev x=e:=by simpa [hx] using hj
       have:=hnew j x m c hx hm
       rw [hcells]
       simpa using this)
    rw [List.length_map,hxl] at ho
    refine .iN ?_ (ad.rH hdd hst hc ho)
    have hfill':Instr.fill (fun i=>some (i*sz,sz)) vs (parts.map fun x=>(x.1,a.eval x.2)).toList=some vs':=by rw [Array.toList_map];exact hfill
    unfold Go.execOp
    simp only [hop]
    by_cases h0:len*sz=0
    ·have hl0:len=0:=by
      rcases Nat.mul_eq_zero.1 h0 with e | e
      ·exact e
      ·omega
     have hp0:parts=#[]:=by
      apply Array.ext'
      exact List.eq_nil_of_length_eq_zero (by omega)
     have hv0:vs'=#[]:=Array.eq_empty_of_size_eq_zero (by omega)
     subst hp0;subst hv0;subst hl0
     simp [Instr.buildSlice,run_underlying hu,sizeOf,typeInfo,hi,Instr.fill,Go.newRow,Array.range_zero']
    ·simp only [vs,h0,if_false] at hfill'
     rw [Sem.run_bind,run_buildSlice w ty t len _ vs' i zv hu hi hiz (by rw [hisz];omega) (by rw [hisz];exact h0) (by rw [hisz];exact hfill')]
     simp
   ·cases he1
  ·cases hz
 ·cases hl
theorem VY{t sz by_:Nat}{z:AV}{n:aO}(h:ad C st a w σ)(hl:aV C.P (.ms t sz by_ z n) o.op=true)(he:execOp R Ω C.E st d (.ms t sz by_ z n)=some r) :
  cX C o d a w σ r.2 r.1:=by
 simp only [aV] at hl
 split at hl
 ·rename_i ty l' c' hop
  simp only [Bool.and_eq_true,beq_iff_eq] at hl
  obtain ⟨⟨⟨⟨⟨hty,hsz⟩,hby⟩,hlo⟩,hlo'⟩,hz⟩:=hl
  split at hz
  ·rename_i zv hzv
   simp only [Bool.and_eq_true,beq_iff_eq] at hz
   obtain ⟨⟨hlz,hzs⟩,h1⟩:=hz
   have hu:=wj hty
   obtain ⟨i,hi,hiz⟩:=uZ hzv
   obtain ⟨_,hcells,hpos⟩:=mJ hsz
   have hisz:i.size=sz:=by rw [←hcells];simp [Program.cellsOf,hi]
   have hiby:i.bytes=by_:=by rw [←hby];simp [Program.bytesOf,hi]
   simp only [execOp] at he
   obtain ⟨dd,hdd,he1⟩:=Option.bind_eq_some_iff.1 he
   clear he
   obtain ⟨m,hm,he2⟩:=Option.bind_eq_some_iff.1 he1
   clear he1
   obtain ⟨k,x,hx,hx0,hxm⟩:=AM hm
   split at he2
   ·rename_i hc
    simp only [Bool.and_eq_true,decide_eq_true_eq] at hc
    obtain ⟨hbytes,hmax⟩:=hc
    obtain rfl:=Option.some.inj he2
    have hvl:=(hx▸h.dR hlo (by rw [hx];simp) (by rw [hx];rfl)).ix
    have hvc:=(hx▸h.dR hlo' (by rw [hx];simp) (by rw [hx];rfl)).ix
    have hxe:x=(m:Int):=by omega
    have hb2:(i.bytes:Int)*x≤281474976710656:=by
     rw [hxe,hiby]
     have:m*by_=by_*m:=Nat.mul_comm _ _
     have h2:((by_*m:Nat):Int)≤281474976710656:=by omega
     rwa [Int.natCast_mul] at h2
    have hmax':x≤9223372036854775807:=by simp [maxLen] at hmax;omega
    have hrun:=run_make (P:=C.P) w ty t i zv hu hi hiz k k x x hx0 (Int.le_refl _) hb2 hmax'
    obtain ⟨hzv',hzp⟩:=Bq (w:=w) (I:=σ.I) (κ:=σ.κ) zv z hlz
    have h1':∀ c∈z.cl,c.one=true:=fun c hc=>List.all_eq_true.1 h1 c hc
    obtain ⟨hzl,hzc⟩:=hzv'.cells h1'
    have hmem:∀ e∈List.replicate m z,e=z:=fun e he=>(List.mem_replicate.1 he).2
    obtain ⟨σ',hst,hc,ho,_⟩:=(h.aL (.s dd)).newRow (L:=.rowS C.E.dp dd) (t:=t) (es:=List.replicate m z) (cap:=m) (cs:=madeCells zv.cells (m*sz)) (by omega) (fun e he=>by rw [hmem e he,hcells];exact hzl.trans hzs) (by simp) hmax
     (by rw [size_madeCells,hcells]) (fun e he=>by rw [hmem e he];exact hzp) (fun e he=>by rw [hmem e he];exact h1') (fun j e q c hj hq=>by
      have hjm:=bq hj
      simp only [List.length_replicate] at hjm
      have hez:=hmem e (List.mem_of_getElem? hj)
      subst hez
      have hql:=bq hq
      have:=hzc q c hq
      rw [hcells]
      have hlt:j*sz+q<m*sz:=by
       have:(j+1)*sz≤m*sz:=Nat.mul_le_mul_right _ (by omega)
       rw [Nat.add_mul] at this
       omega
      have hmod:(j*sz+q) % zv.cells.size=q:=by rw [hzs,Nat.mul_comm,Nat.mul_add_mod];exact Nat.mod_eq_of_lt (by omega)
      have:(madeCells zv.cells (m*sz)).getD (j*sz+q) undef=zv.cells.getD q undef:=by
       simp [madeCells,Array.getD_eq_getD_getElem?,hlt,hmod]
       have hqs:q<zv.cells.size:=by omega
       simp [hqs]
      rw [this]
      exact hzc q c hq)
    rw [List.length_replicate] at ho
    refine .iN ?_ (ad.rH hdd hst hc ho)
    unfold Go.execOp
    rw [hisz,hxm] at hrun
    simp [hop,hvl,hvc,hrun]
   ·cases he2
  ·cases hz
 ·cases hl
end
end Go.Proofs.YtkkkkondjclcnaaGreat.A
