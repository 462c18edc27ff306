/- What never changes again; what is kept; what a function hands back. -/
import Derived.Test.YtphgedfhcncobaaGreatDoorAbsE
set_option linter.unusedSectionVars false
set_option linter.unusedVariables false
set_option linter.unusedSimpArgs false
set_option linter.constructorNameAsVariable false
namespace Go.Proofs.YtphgedfhcncobaaGreatDoor.A
open Go
variable [bg]
section
variable {C:Cx}{st:St}{a:Act}{w:World}{σ:Sp}{o:Oper}{d:Option Nat}{R:Rec}{Ω:bR}{r:AV×St}
def Sp.db(σ:Sp)(g:Nat):Sp:={σ with ow:=fun b=>if b=g then none else σ.ow b,I:=fun b=>σ.I b∨b=g}
theorem af.Gt{g:Nat}{L:cE}(h:af C st a w σ)(hg:σ.ow g=some L)(hi:Idle C st (some L)):af C st a w (σ.db g):=by
 refine h.zX (L:=some L) ⟨fun b l hb hl=>⟨rfl,?_⟩,fun _ _=>rfl,fun _ h=>.inl h,rfl,Nat.le_refl _,fun b l hb=>?_,fun b hb=>?_⟩ hi
 ·have:b≠g:=fun e=>hl (by subst e;rw [←hb,hg])
  simp only [Sp.db,if_neg this,hb]
 ·simp only [Sp.db] at hb
  split at hb
  ·cases hb
  ·exact h.own b l hb
 ·rcases hb with hb | rfl
  ·obtain ⟨h1,h2⟩:=h.bc b hb
   refine ⟨h1,?_⟩
   simp only [Sp.db,h2];split<;>rfl
  ·exact ⟨h.own _ _ hg,by simp [Sp.db]⟩
theorem cG.db{g:Nat}(hW:C.W g):cG C w σ w (σ.db g):=
 ⟨Nat.le_refl _,fun _ _ _=>rfl,fun _ h=>.inl h,fun _ _=>rfl,fun b hb=>hb.elim .inl fun e=>.inr (by rw [e];exact hW),fun _ _=>rfl,fun b _ hb=>if_neg (fun e=>hb (by rw [e];exact hW)),rfl,rfl⟩
theorem dt.bc{P:Program}{W:Nat→Prop}{L:cE}{wp:Prop}{t:TypeId}{es:List AV}{g cap lo len:Nat}{cs:Array Value}{I:Nat→Prop}(hR:dt P W w σ L wp t es g cap cs)(hI:∀ b,σ.I b→I b)(hg:I g)
  (hle:lo+len≤es.length):VR w I σ.κ (.l t ((es.drop lo).take len)) (.slice (some ⟨g,lo*P.cellsOf t,none⟩) len (cap - lo)):=by
 have hm:∀ e∈(es.drop lo).take len,e∈es:=fun e he=>List.mem_of_mem_drop (List.mem_of_mem_take he)
 have hlen:((es.drop lo).take len).length=len:=by simp;omega
 have hec:=hR.ecap
 have:=VR.l (w:=w) (I:=I) (κ:=σ.κ) t ((es.drop lo).take len) g (lo*P.cellsOf t) (cap - lo) cs t (0,0) (P.cellsOf t) hg hR.hh (fun _=>⟨fun _=>⟨rfl,rfl⟩,fun h=>absurd hR.base (Nat.not_le_of_lt h)⟩) hR.pos (fun e he=>hR.nc e (hm e he))
  (by rw [hlen,hR.size,←Nat.add_mul];exact Nat.mul_le_mul_right _ (by omega)) (fun e he=>hR.pure e (hm e he)) (fun e he=>hR.one e (hm e he)) (by omega) (by have:=hR.max;omega) (fun j e m c hj hq=>by
   rw [List.getElem?_take] at hj
   split at hj
   ·rw [List.getElem?_drop] at hj
    have:=hR.cell _ e m c hj hq
    rw [Nat.add_mul] at this
    exact this.tE hI (fun _ _=>rfl) (fF (hR.pure e (List.mem_of_getElem? hj)) c (List.mem_of_getElem? hq))
   ·cases hj)
 rwa [hlen] at this
theorem dt.Fi{P:Program}{W:Nat→Prop}{L:cE}{wp:Prop}{t:TypeId}{es:List AV}{g cap:Nat}{cs:Array Value}{I:Nat→Prop}(hR:dt P W w σ L wp t es g cap cs)(hI:∀ b,σ.I b→I b)(hg:I g) :
  VR w I σ.κ (.l t es) (.slice (some ⟨g,0,none⟩) es.length cap):=by
 have:=hR.bc hI hg (lo:=0) (len:=es.length) (by omega)
 simpa using this
theorem af.freeze{L:cE}{t:TypeId}{es:List AV}{v:Value}(h:af C st a w σ)(ho:OwnAt C.P C.W w σ L True t es v)(hi:Idle C st (some L)) :
  ∃ σ',cG C w σ w σ'∧af C st a w σ'∧VR w σ'.I σ'.κ (.l t es) v∧σ'.κ=σ.κ:=by
 rcases ho with ⟨rfl,rfl⟩ | ⟨g,cap,cs,rfl,hR⟩
 ·exact ⟨σ,.refl _ _ _,h,.lnil _ _ _,rfl⟩
 ·exact ⟨_,.db (hR.wr trivial),h.Gt hR.ow hi,hR.Fi (I:=(σ.db g).I) (fun _ h=>.inl h) (.inr rfl),rfl⟩
theorem af.ud{st':St}(h:af C st a w σ)(hfr:∀ d,ag st'.fr d= .u∨ag st'.fr d=ag st.fr d)(hbx:∀ k cs,st'.box C.E.dp k=some cs→st.box C.E.dp k=some cs)
  (hhp:∀ k cs,k.dp≠C.E.dp→st'.hp k=some cs→st.hp k=some cs):af C st' a w σ:=by
 have h1:af C {st with hp:=st'.hp} a w σ→af C st' a w σ:=fun h1=>h1.forget hfr (fun k cs hk=>by
  by_cases hd:k.dp=C.E.dp
  ·have:=hbx k cs hk
   simpa [St.box,hd] using this
  ·simpa [St.box,hd] using hk) rfl
 refine h1 ⟨h.size,h.defers,fun d=>(h.fr d).tA fun pl _ ⟨r,hr⟩=>?_,fun k cs hk=>?_,fun k cs hk hc=>h.hpd k cs hk (hhp k cs hk hc),h.own,h.bc,h.new⟩
 ·refine ⟨?_,rfl⟩
  rw [hr]
  cases pl with
  | s d'=>exact hr.symm
  | c k off=>
   by_cases hd:k.dp=C.E.dp
   ·simpa [St.rowAt,St.box,hd] using hr.symm
   ·simp only [St.rowAt,St.box,if_neg hd] at hr ⊢
    cases hc:st'.hp k with
    | none=>simp [hc] at hr
    | some cs=>
     rw [hhp k cs hd hc]
     simpa [hc] using hr.symm
 ·by_cases hd:k.dp=C.E.dp
  ·exact h.bx k cs (by simpa [St.box,hd] using hk)
  ·simp only [St.box,if_neg hd] at hk
   exact h.bx k cs (by simp only [St.box,if_neg hd];exact hhp k cs hd hk)
theorem so(fr:List (Nat×AV))(ks:List Nat)(d:Nat):ag (fh fr ks) d= .u∨ag (fh fr ks) d=ag fr d:=by
 induction ks with
 | nil=>exact .inl rfl
 | cons k ks ih=>
  simp only [fh,List.map_cons,ag]
  split
  ·rename_i e;subst e;exact .inr rfl
  ·exact ih
theorem bE{bx:List (Nat×List AV)}{ks:List Nat}{d:Nat}{cs:List AV}(h:an (bG bx ks) d=some cs):an bx d=some cs:=by
 induction ks with
 | nil=>simp [bG,an] at h
 | cons k ks ih=>
  simp only [bG] at h
  split at h
  ·rename_i cs' hk
   simp only [an] at h
   split at h
   ·rename_i e;subst e;rw [hk];exact h
   ·exact ih h
  ·exact ih h
theorem af.a7(h:af C st a w σ)(kf kb:List Nat):af C (st.a7 kf kb) a w σ:=
 h.ud (so st.fr kf) (fun k cs hk=>by
  by_cases hd:k.dp=C.E.dp
  ·simp only [St.box,St.a7,hd,if_true] at hk ⊢
   exact bE hk
  ·simp only [St.box,St.a7,if_neg hd] at hk ⊢
   exact hk) (fun _ _ _ h=>h)
theorem af.bA{d:Nat}{x:AV}(h:af C st a w σ)(hx:SR C w σ st a d x (a.tmps.getD d undef))(hb:∀ t es,x= .o t es→∀ d',(ag st.fr d').dA (.s d)=false)(hd:d<C.nt):af C (st.bA d x) a w σ:=by
 have:=h.put hd hx hb
 have e:a.put (some d) (a.tmps.getD d undef)=a:=by
  have hd':d<a.tmps.size:=h.size▸hd
  simp only [Act.put]
  have:a.tmps.setIfInBounds d (a.tmps.getD d undef)=a.tmps:=by
   apply Array.ext_getElem?
   intro i
   rw [Array.getElem?_setIfInBounds]
   split
   ·rename_i e;subst e;simp [hd']
   ·rfl
  rw [this]
 rwa [e] at this
theorem Cw{d:Nat}{x:AV}{v:Value}(hd:C.nt≤d)(h:af C st a w σ)(hx:ag st.fr d=x)(hv:a.tmps.getD d undef=v):v=undef:=by
 rw [←hv]
 have:¬d<a.tmps.size:=by rw [h.size];omega
 simp [this]
theorem G0{d:Nat}{t:TypeId}{es:List AV}(h:af C st a w σ)(hx:ag st.fr d= .o t es):d<C.nt:=by
 rcases Nat.lt_or_ge d C.nt with hd | hd
 ·exact hd
 ·have:=h.fr d
  rw [hx,Cw hd h rfl rfl] at this
  rcases this with ⟨_,h2⟩ | ⟨_,_,_,h2,_⟩<;>cases h2
theorem Bm{d:Nat}{x:AV}{v:Value}(h:af C st a w σ)(hv:a.tmps.getD d undef=v)(hne:v≠undef):d<C.nt:=by
 rcases Nat.lt_or_ge d C.nt with hd | hd
 ·exact hd
 ·exact absurd (by rw [←hv];exact Cw (x:=ag st.fr d) hd h rfl rfl) hne
theorem JF{k:Key}{off:Nat}{c:AV}{v:Value}(hc:c.pure=true)(h:CR C w σ k off c v):VR w σ.I σ.κ c v:=by
 cases c<;>first | exact h | cases hc
theorem af.El{k:Key}{cs:List AV}{off:Nat}{x:AV}(h:af C st a w σ)(hb:st.box C.E.dp k=some cs)(hno:∀ t es,cs[off]? ≠some (.o t es))(hx:x.one=true)
  (hdeep:k.dp≠C.E.dp→x.deep k.dp=true) (hbor:∀ d,(ag st.fr d).dA (.c k off)=false)
  (hv:∀ vs T,w.heap[σ.κ k]? =some (.cells vs T (0,0))→CR C w σ k off x (vs.getD off undef)):af C (st.az C.E.dp k (cs.set off x)) a w σ:=by
 have hbox:=fun k'=>ib (cs':=cs.set off x) hb k'
 obtain ⟨vs,T,hB⟩:=h.bx k cs hb
 refine ⟨h.size,h.defers,fun d=>?_,fun k' cs' hk=>?_,fun k' cs' hk hc'=>?_,h.own,h.bc,h.new⟩
 ·rw [iQ]
  refine (h.fr d).tA fun pl hpl ⟨r,hr⟩=>⟨?_,rfl⟩
  rw [hr]
  cases pl with
  | s d'=>rw [kP] at hr;exact hr.symm
  | c k' off'=>
   simp only [St.rowAt,hbox] at hr ⊢
   by_cases hk:k'=k
   ·subst hk
    by_cases ho:off=off'
    ·subst ho
     rw [hbor d] at hpl;cases hpl
    ·simp only [if_true,List.getElem?_set,if_neg ho] at hr
     simp only [hb];exact hr.symm
   ·simp only [if_neg hk] at hr
    exact hr.symm
 ·rw [hbox] at hk
  by_cases hkk:k'=k
  ·subst hkk
   simp only [if_true] at hk
   obtain rfl:=Option.some.inj hk
   refine ⟨vs,T,hB.hh,by simpa using hB.size,hB.ow,hB.wr,fun c hm=>?_,fun i c hi=>?_⟩
   ·rcases List.mem_or_eq_of_mem_set hm with hm | rfl
    ·exact hB.one c hm
    ·exact .inl hx
   ·rw [List.getElem?_set] at hi
    split at hi
    ·rename_i e
     split at hi
     ·obtain rfl:=Option.some.inj hi
      subst e
      exact hv vs T hB.hh
     ·cases hi
    ·exact hB.cell i c hi
  ·simp only [if_neg hkk] at hk
   exact h.bx k' cs' hk
 ·by_cases hkd:k.dp=C.E.dp
  ·simp only [St.az,hkd,if_true] at hc'
   exact h.hpd k' cs' hk hc'
  ·simp only [St.az,if_neg hkd,aP] at hc'
   split at hc'
   ·rename_i hkk
    subst hkk
    obtain rfl:=Option.some.inj hc'
    have hold:=h.hpd k' cs hk (by simpa [St.box,hkd] using hb)
    refine ⟨hold.1,fun c hm=>?_⟩
    rcases List.mem_or_eq_of_mem_set hm with hm | rfl
    ·exact hold.2 c hm
    ·exact hdeep hkd
   ·exact h.hpd k' cs' hk hc'
theorem set_set(cs:List AV)(off:Nat)(x y:AV):(cs.set off x).set off y=cs.set off y:=by
 apply List.ext_getElem?
 intro i
 simp only [List.getElem?_set,List.length_set]
 split<;>rfl
theorem za(bx:List (Nat×List AV))(d:Nat)(x y:List AV):fU (fU bx d x) d y=fU bx d y:=by
 induction bx with
 | nil=>rfl
 | cons z bx ih=>
  obtain ⟨k,c⟩:=z
  simp only [fU]
  split
  ·rename_i e;subst e;simp [fU]
  ·rename_i hne;simp only [fU,if_neg hne,ih]
theorem zT(dp:Nat)(st:St)(k:Key)(x y:List AV):(st.az dp k x).az dp k y=st.az dp k y:=by
 unfold St.az
 split
 ·simp only [za]
 ·congr 1
  funext k'
  simp only [aP]
  split<;>rfl
theorem yC{k:Key}{off:Nat}(h:k.dp=C.E.dp):(Pl.c k off).eD C.E=true:=by simp [Pl.eD,h]
theorem af.JG{p:qf}{st':St}(h:af C st a w σ)(he:ef C.E st p=some st'):∃ σ',cG C w σ w σ'∧af C st' a w σ':=by
 cases p with
 | own d t=>
  simp only [ef] at he
  split at he
  ·rename_i hx
   obtain rfl:=Option.some.inj he
   have hs:=h.fr d
   rw [hx] at hs
   have hv:=VR.uc hs
   refine ⟨σ,.refl _ _ _,(h.aN (.s d)).bA (.inl ⟨rfl,hv⟩) (fun _ _ _ d'=>iO _ _ _) (Bm (x:=.n) h hv (by simp [undef]))⟩
  ·obtain rfl:=Option.some.inj he
   exact ⟨σ,.refl _ _ _,h⟩
  ·cases he
 | fz d=>
  simp only [ef] at he
  split at he
  ·rename_i t es hx
   obtain rfl:=Option.some.inj he
   have hs:=h.fr d
   rw [hx] at hs
   obtain ⟨σ',hst,hc,hv,_⟩:=(h.Bj d).freeze (L:=.rowS C.E.dp d) hs (oC fun t es=>by rw [fD,if_pos rfl];simp)
   have:=hc.bA (d:=d) (x:=.l t es) hv (fun _ _ e=>by cases e) (G0 h hx)
   refine ⟨σ',hst,this.ud (fun d'=>.inr ?_) (fun _ _ h=>h) (fun _ _ _ h=>h)⟩
   simp only [fD];split<;>rfl
  ·cases he
 | ownC d off t=>
  simp only [ef] at he
  split at he
  ·rename_i k o hx
   split at he
   ·rename_i hm
    obtain ⟨cs,hb,he1⟩:=Option.bind_eq_some_iff.1 he
    clear he
    split at he1
    ·rename_i hcn
     obtain rfl:=Option.some.inj he1
     refine ⟨σ,.refl _ _ _,(h.aN (.c k (o+off))).El hb (fun _ _ e=>by rw [hcn] at e;cases e) rfl (fun _=>rfl) (fun d'=>iO _ _ _) fun vs T hh=>?_⟩
     obtain ⟨vs',T',hB⟩:=h.bx k cs hb
     have:=hB.cell _ _ hcn
     rw [hB.hh] at hh
     simp only [Option.some.injEq,Obj.cells.injEq] at hh
     rw [←hh.1]
     exact .inl ⟨rfl,VR.uc this⟩
    ·obtain rfl:=Option.some.inj he1
     exact ⟨σ,.refl _ _ _,h⟩
    ·cases he1
   ·cases he
  ·cases he
 | fzC d off=>
  simp only [ef] at he
  split at he
  ·rename_i k o hx
   split at he
   ·rename_i hm
    obtain ⟨cs,hb,he1⟩:=Option.bind_eq_some_iff.1 he
    clear he
    split at he1
    ·rename_i t es hco
     obtain rfl:=Option.some.inj he1
     obtain ⟨vs,T,hB⟩:=h.bx k cs hb
     have ho:OwnAt C.P C.W w σ (.rowC k (o+off)) ((Pl.c k (o+off)).eD C.E=true) t es (vs.getD (o+off) undef):=hB.cell _ _ hco
     obtain ⟨h1,hi⟩:=h.Bl (pl:=.c k (o+off)) (st':=st.az C.E.dp k (cs.set (o+off) .u)) (by simp [St.putAt,hb])
     obtain ⟨σ',hst,hc,hv,hkap⟩:=h1.freeze (ho.tB fun _=>hm) hi
     have hbx1:(st.az C.E.dp k (cs.set (o+off) .u)).box C.E.dp k=some (cs.set (o+off) .u):=by rw [ib hb,if_pos rfl]
     have hcell:(cs.set (o+off) AV.u)[o+off]? =some .u:=by
      rw [List.getElem?_set];simp [ba hco]
     have h2:=(hc.aN (.c k (o+off))).El (x:=.l t es) (off:=o+off) (cs:=cs.set (o+off) .u) hbx1 (fun _ _ e=>by rw [hcell] at e;cases e) rfl (fun _=>rfl) (fun d'=>iO _ _ _) (fun vs' T' hh=>by
      rw [hkap,hB.hh] at hh
      simp only [Option.some.injEq,Obj.cells.injEq] at hh
      rw [←hh.1]
      exact hv)
     rw [set_set] at h2
     refine ⟨σ',hst,?_⟩
     have e1:((st.az C.E.dp k (cs.set (o+off) .u)).aN (.c k (o+off))).az C.E.dp k (cs.set (o+off) (.l t es))=
       (st.az C.E.dp k (cs.set (o+off) (.l t es))).aN (.c k (o+off)):=by
      have:=zT C.E.dp st k (cs.set (o+off) .u) (cs.set (o+off) (.l t es))
      unfold St.aN
      unfold St.az at this ⊢
      split
      ·rename_i hd;simp only [if_pos hd,za]
      ·rename_i hd
       simp only [if_neg hd]
       congr 1
       funext k'
       simp only [aP]
       split<;>rfl
     rw [e1] at h2
     refine ⟨h2.size,h2.defers,fun d'=>?_,h2.bx,h2.hpd,h2.own,h2.bc,h2.new⟩
     have hnr:(st.az C.E.dp k (cs.set (o+off) (.l t es))).rowAt C.E.dp (.c k (o+off))=none:=by
      simp only [St.rowAt,ib hb,if_true,List.getElem?_set,if_pos (ba hco)]
     by_cases hbb:(ag (st.az C.E.dp k (cs.set (o+off) (.l t es))).fr d').dA (.c k (o+off))=true
     ·cases hy:ag (st.az C.E.dp k (cs.set (o+off) (.l t es))).fr d'<;>rw [hy] at hbb<;>simp [AV.dA] at hbb
      ·subst hbb;intro hs;rw [hnr] at hs;cases hs
      ·subst hbb;intro t' es' hs;rw [hnr] at hs;cases hs
      ·subst hbb;intro t' es' hs;rw [hnr] at hs;cases hs
     ·have:=h2.fr d'
      have e2:ag ((st.az C.E.dp k (cs.set (o+off) (.l t es))).aN (.c k (o+off))).fr d'=ag (st.az C.E.dp k (cs.set (o+off) (.l t es))).fr d':=by
       simp only [St.aN,hZ,if_neg hbb]
      rw [e2] at this
      exact this.tA fun pl _ _=>⟨(BZ _ _ _ _).symm,rfl⟩
    ·cases he1
   ·cases he
  ·cases he
 | fzB d agg=>
  simp only [ef] at he
  split at he
  ·rename_i k hx
   split at he
   ·rename_i hkd
    obtain ⟨cs,hb,he1⟩:=Option.bind_eq_some_iff.1 he
    clear he
    split at he1
    ·rename_i hp
     have hb':st.box C.E.dp k=some cs:=by simp [St.box,hkd,hb]
     obtain ⟨vs,T,hB⟩:=h.bx k cs hb'
     have hs:=h.fr d
     rw [hx] at hs
     have hv:=VR.oj hs
     have hpl:=fq hp
     have hno:∀ c∈cs,∀ t es,c≠.o t es:=fun c hc t es e=>by have:=hpl c hc;rw [e] at this;cases this
     have hone:∀ c∈cs,c.one=true:=fun c hc=>(hB.one c hc).resolve_right fun e=>by have:=hpl c hc;rw [e] at this;cases this
     have h1:af C {st with bx:=st.bx.filter fun y=>y.1 !=k.d} a w σ:=by
      refine h.ud (fun _=>.inr rfl) (fun k' cs' hk=>?_) (fun _ _ _ h=>h)
      by_cases hd:k'.dp=C.E.dp
      ·simp only [St.box,hd,if_true] at hk ⊢
       have hf:∀ bx:List (Nat×List AV),an (bx.filter fun y=>y.1 !=k.d) k'.d=some cs'→an bx k'.d=some cs':=by
        intro bx
        induction bx with
        | nil=>exact id
        | cons z bx ih=>
         intro hz
         simp only [List.filter_cons] at hz
         split at hz
         ·simp only [an] at hz ⊢
          split
          ·rename_i e;rw [if_pos e] at hz;exact hz
          ·rename_i e;rw [if_neg e] at hz;exact ih hz
         ·rename_i hne
          simp only [an]
          split
          ·rename_i e
           exfalso
           have h3:z.1=k.d:=by simpa using hne
           have hf2:∀ bx:List (Nat×List AV),an (bx.filter fun y=>y.1 !=k.d) k.d=none:=by
            intro bx
            induction bx with
            | nil=>rfl
            | cons y bx ih=>
             simp only [List.filter_cons]
             split
             ·rename_i h4
              have:y.1≠k.d:=by simpa using h4
              simp only [an,if_neg this,ih]
             ·exact ih
           rw [←e,h3,hf2] at hz;cases hz
          ·exact ih hz
       exact hf _ hk
      ·simp only [St.box,if_neg hd] at hk ⊢;exact hk
     have hgone:({st with bx:=st.bx.filter fun y=>y.1 !=k.d} : St).box C.E.dp k=none:=by
      simp only [St.box,hkd,if_true]
      have hf2:∀ bx:List (Nat×List AV),an (bx.filter fun y=>y.1 !=k.d) k.d=none:=by
       intro bx
       induction bx with
       | nil=>rfl
       | cons y bx ih=>
        simp only [List.filter_cons]
        split
        ·rename_i h4
         have:y.1≠k.d:=by simpa using h4
         simp only [an,if_neg this,ih]
        ·exact ih
      exact hf2 _
     have hi:Idle C {st with bx:=st.bx.filter fun y=>y.1 !=k.d} (some (.box k)):=
      ⟨fun _ _ _ _=>by simp,fun k' cs' hk e=>(by simp only [Option.some.injEq,cE.box.injEq] at e;subst e;rw [hgone] at hk;cases hk),fun _ _ _ _ _ _ _=>by simp,fun _=>by simp⟩
     have h2:=h1.Gt hB.ow hi
     have hW:C.W (σ.κ k):=hB.wr (yC hkd)
     have hlt:d<C.nt:=Bm (x:=.p k 0) h hv (by simp [undef])
     have hfin:∀ x:AV,x.cl=cs→x.pure=true→(∀ t es,x≠.o t es)→af C {(st.bA d (.e x 0)) with bx:=st.bx.filter fun y=>y.1 !=k.d} a w (σ.db (σ.κ k)):=by
      intro x hcl hxp _
      refine h2.bA (d:=d) (x:=.e x 0) ?_ (fun _ _ e=>by cases e) hlt
      rw [hv]
      have:=VR.e (w:=w) (I:=(σ.db (σ.κ k)).I) (κ:=(σ.db (σ.κ k)).κ) x 0 (σ.κ k) 0 vs T (0,0) (.inr rfl) hB.hh hxp (by unfold AV.nc;rw [hcl,hB.size];omega) (by rw [hcl];exact hone) (fun m c hm=>by
       rw [hcl] at hm
       rw [Nat.zero_add]
       have hcm:=List.mem_of_getElem? hm
       exact (JF (hpl c hcm) (hB.cell m c hm)).tE (fun _ h=>.inl h) (fun _ _=>rfl) (hpl c hcm))
      exact this
     split at he1
     ·obtain rfl:=Option.some.inj he1
      exact ⟨_,.db hW,hfin (.a cs) rfl (ig hpl) (fun _ _ e=>by cases e)⟩
     ·split at he1
      ·rename_i c
       obtain rfl:=Option.some.inj he1
       have hc1:=hone c (by simp)
       have hcl:c.cl=[c]:=by cases c<;>first | rfl | (simp [AV.one] at hc1)
       exact ⟨_,.db hW,hfin c hcl (hpl c (by simp)) (hno c (by simp))⟩
      ·cases he1
    ·cases he1
   ·cases he
  ·cases he
theorem af.pre:∀ (ps:List qf){st st':St}{σ:Sp},af C st a w σ→oX C.E st ps=some st'→∃ σ',cG C w σ w σ'∧af C st' a w σ'
 | [],st,st',σ,h,he=>by obtain rfl:=Option.some.inj he;exact ⟨σ,.refl _ _ _,h⟩
 | p::ps,st,st',σ,h,he=>by
  obtain ⟨st1,h1,h2⟩:=Option.bind_eq_some_iff.1 he
  obtain ⟨σ1,hs1,hc1⟩:=h.JG h1
  obtain ⟨σ2,hs2,hc2⟩:=af.pre ps hc1 h2
  exact ⟨σ2,hs1.trans hs2,hc2⟩
end
end Go.Proofs.YtphgedfhcncobaaGreatDoor.A
