/- What never changes again; what is kept; what a function hands back. -/
import Derived.Test.YtogbakbmphadfaaGreatDoorAbsE
set_option linter.unusedSectionVars false
set_option linter.unusedVariables false
set_option linter.unusedSimpArgs false
set_option linter.constructorNameAsVariable false
namespace Go.Proofs.YtogbakbmphadfaaGreatDoor.A
open Go
variable [bJ]
section
variable {C:Cx}{st:St}{a:Act}{w:World}{σ:Sp}{o:Oper}{d:Option Nat}{R:Rec}{Ω:cI}{r:AV×St}
def Sp.eh(σ:Sp)(g:Nat):Sp:={σ with ow:=fun b=>if b=g then none else σ.ow b,I:=fun b=>σ.I b∨b=g}
theorem ah.MD{g:Nat}{L:dz}(h:ah C st a w σ)(hg:σ.ow g=some L)(hi:Idle C st (some L)):ah C st a w (σ.eh g):=by
 refine h.yu (L:=some L) ⟨fun b l hb hl=>⟨rfl,?_⟩,fun _ _=>rfl,fun _ h=>.inl h,rfl,Nat.le_refl _,fun b l hb=>?_,fun b hb=>?_⟩ hi
 ·have:b≠g:=fun e=>hl (by subst e;rw [←hb,hg])
  simp only [Sp.eh,if_neg this,hb]
 ·simp only [Sp.eh] at hb
  split at hb
  ·cases hb
  ·exact h.own b l hb
 ·rcases hb with hb | rfl
  ·obtain ⟨h1,h2⟩:=h.bG b hb
   refine ⟨h1,?_⟩
   simp only [Sp.eh,h2];split<;>rfl
  ·exact ⟨h.own _ _ hg,by simp [Sp.eh]⟩
theorem dA.eh{g:Nat}(hW:C.W g):dA C w σ w (σ.eh g):=
 ⟨Nat.le_refl _,fun _ _ _=>rfl,fun _ h=>.inl h,fun _ _=>rfl,fun b hb=>hb.elim .inl fun e=>.inr (by rw [e];exact hW),fun _ _=>rfl,fun b _ hb=>if_neg (fun e=>hb (by rw [e];exact hW)),rfl,rfl⟩
theorem eg.bG{P:Program}{W:Nat→Prop}{L:dz}{wp:Prop}{t:TypeId}{es:List AV}{g cap lo len:Nat}{cs:Array Value}{I:Nat→Prop}(hR:eg P W w σ L wp t es g cap cs)(hI:∀ b,σ.I b→I b)(hg:I g)
  (hle:lo+len≤es.length):VR w I σ.κ (.l t ((es.drop lo).take len)) (.slice (some ⟨g,lo*P.cellsOf t,none⟩) len (cap - lo)):=by
 have hm:∀ e∈(es.drop lo).take len,e∈es:=fun e he=>List.mem_of_mem_drop (List.mem_of_mem_take he)
 have hlen:((es.drop lo).take len).length=len:=by simp;omega
 have hec:=hR.ecap
 have:=VR.l (w:=w) (I:=I) (κ:=σ.κ) t ((es.drop lo).take len) g (lo*P.cellsOf t) (cap - lo) cs t (0,0) (P.cellsOf t) hg hR.hh (fun _=>⟨fun _=>⟨rfl,rfl⟩,fun h=>absurd hR.base (Nat.not_le_of_lt h)⟩) hR.pos (fun e he=>hR.nc e (hm e he))
  (by rw [hlen,hR.size,←Nat.add_mul];exact Nat.mul_le_mul_right _ (by omega)) (fun e he=>hR.pure e (hm e he)) (fun e he=>hR.one e (hm e he)) (by omega) (by have:=hR.max;omega) (fun j e m c hj hq=>by
   rw [List.getElem?_take] at hj
   split at hj
   ·rw [List.getElem?_drop] at hj
    have:=hR.cell _ e m c hj hq
    rw [Nat.add_mul] at this
    exact this.xS hI (fun _ _=>rfl) (iC (hR.pure e (List.mem_of_getElem? hj)) c (List.mem_of_getElem? hq))
   ·cases hj)
 rwa [hlen] at this
theorem eg.La{P:Program}{W:Nat→Prop}{L:dz}{wp:Prop}{t:TypeId}{es:List AV}{g cap:Nat}{cs:Array Value}{I:Nat→Prop}(hR:eg P W w σ L wp t es g cap cs)(hI:∀ b,σ.I b→I b)(hg:I g) :
  VR w I σ.κ (.l t es) (.slice (some ⟨g,0,none⟩) es.length cap):=by
 have:=hR.bG hI hg (lo:=0) (len:=es.length) (by omega)
 simpa using this
theorem ah.freeze{L:dz}{t:TypeId}{es:List AV}{v:Value}(h:ah C st a w σ)(ho:OwnAt C.P C.W w σ L True t es v)(hi:Idle C st (some L)) :
  ∃ σ',dA C w σ w σ'∧ah C st a w σ'∧VR w σ'.I σ'.κ (.l t es) v∧σ'.κ=σ.κ:=by
 rcases ho with ⟨rfl,rfl⟩ | ⟨g,cap,cs,rfl,hR⟩
 ·exact ⟨σ,.refl _ _ _,h,.lnil _ _ _,rfl⟩
 ·exact ⟨_,.eh (hR.wr trivial),h.MD hR.ow hi,hR.La (I:=(σ.eh g).I) (fun _ h=>.inl h) (.inr rfl),rfl⟩
theorem ah.yA{st':St}(h:ah C st a w σ)(hfr:∀ d,an st'.fr d= .u∨an st'.fr d=an st.fr d)(hbx:∀ k cs,st'.box C.E.dp k=some cs→st.box C.E.dp k=some cs)
  (hhp:∀ k cs,k.dp≠C.E.dp→st'.hp k=some cs→st.hp k=some cs):ah C st' a w σ:=by
 have h1:ah C {st with hp:=st'.hp} a w σ→ah C st' a w σ:=fun h1=>h1.forget hfr (fun k cs hk=>by
  by_cases hd:k.dp=C.E.dp
  ·have:=hbx k cs hk
   simpa [St.box,hd] using this
  ·simpa [St.box,hd] using hk) rfl
 refine h1 ⟨h.size,h.defers,fun d=>(h.fr d).xM fun pl _ ⟨r,hr⟩=>?_,fun k cs hk=>?_,fun k cs hk hc=>h.hpd k cs hk (hhp k cs hk hc),h.own,h.bG,h.new,h.lay⟩
 ·refine ⟨?_,rfl⟩
  rw [hr]
  cases pl with
  | s d'=>exact hr.symm
  | c k off=>
   by_cases hd:k.dp=C.E.dp
   ·simpa [St.rowAt,St.box,hd] using hr.symm
   ·simp only [St.rowAt,St.box,if_neg hd] at hr ⊢
    cases hc:st'.hp k with
    | none=>simp [hc] at hr
    | some cs=>
     rw [hhp k cs hd hc]
     simpa [hc] using hr.symm
 ·by_cases hd:k.dp=C.E.dp
  ·exact h.bx k cs (by simpa [St.box,hd] using hk)
  ·simp only [St.box,if_neg hd] at hk
   exact h.bx k cs (by simp only [St.box,if_neg hd];exact hhp k cs hd hk)
theorem wi(fr:List (Nat×AV))(ks:List Nat)(d:Nat):an (hZ fr ks) d= .u∨an (hZ fr ks) d=an fr d:=by
 induction ks with
 | nil=>exact .inl rfl
 | cons k ks ih=>
  simp only [hZ,List.map_cons,an]
  split
  ·rename_i e;subst e;exact .inr rfl
  ·exact ih
theorem b8{bx:List (Nat×List AV)}{ks:List Nat}{d:Nat}{cs:List AV}(h:az (cg bx ks) d=some cs):az bx d=some cs:=by
 induction ks with
 | nil=>simp [cg,az] at h
 | cons k ks ih=>
  simp only [cg] at h
  split at h
  ·rename_i cs' hk
   simp only [az] at h
   split at h
   ·rename_i e;subst e;rw [hk];exact h
   ·exact ih h
  ·exact ih h
theorem ah.bw(h:ah C st a w σ)(kf kb:List Nat):ah C (st.bw kf kb) a w σ:=
 h.yA (wi st.fr kf) (fun k cs hk=>by
  by_cases hd:k.dp=C.E.dp
  ·simp only [St.box,St.bw,hd,if_true] at hk ⊢
   exact b8 hk
  ·simp only [St.box,St.bw,if_neg hd] at hk ⊢
   exact hk) (fun _ _ _ h=>h)
theorem ah.b5{d:Nat}{x:AV}(h:ah C st a w σ)(hx:SR C w σ st a d x (a.tmps.getD d undef))(hb:∀ t es,x= .o t es→∀ d',(an st.fr d').cG (.s d)=false)(hd:d<C.nt):ah C (st.b5 d x) a w σ:=by
 have:=h.put hd hx hb
 have e:a.put (some d) (a.tmps.getD d undef)=a:=by
  have hd':d<a.tmps.size:=h.size▸hd
  simp only [Act.put]
  have:a.tmps.setIfInBounds d (a.tmps.getD d undef)=a.tmps:=by
   apply Array.ext_getElem?
   intro i
   rw [Array.getElem?_setIfInBounds]
   split
   ·rename_i e;subst e;simp [hd']
   ·rfl
  rw [this]
 rwa [e] at this
theorem HG{d:Nat}{x:AV}{v:Value}(hd:C.nt≤d)(h:ah C st a w σ)(hx:an st.fr d=x)(hv:a.tmps.getD d undef=v):v=undef:=by
 rw [←hv]
 have:¬d<a.tmps.size:=by rw [h.size];omega
 simp [this]
theorem Ng{d:Nat}{t:TypeId}{es:List AV}(h:ah C st a w σ)(hx:an st.fr d= .o t es):d<C.nt:=by
 rcases Nat.lt_or_ge d C.nt with hd | hd
 ·exact hd
 ·have:=h.fr d
  rw [hx,HG hd h rfl rfl] at this
  rcases this with ⟨_,h2⟩ | ⟨_,_,_,h2,_⟩<;>cases h2
theorem Gi{d:Nat}{x:AV}{v:Value}(h:ah C st a w σ)(hv:a.tmps.getD d undef=v)(hne:v≠undef):d<C.nt:=by
 rcases Nat.lt_or_ge d C.nt with hd | hd
 ·exact hd
 ·exact absurd (by rw [←hv];exact HG (x:=an st.fr d) hd h rfl rfl) hne
theorem QW{k:Key}{off:Nat}{c:AV}{v:Value}(hc:c.pure=true)(h:CR C w σ k off c v):VR w σ.I σ.κ c v:=by
 cases c<;>first | exact h | cases hc
theorem ah.Gj{k:Key}{cs:List AV}{off:Nat}{x:AV}(h:ah C st a w σ)(hb:st.box C.E.dp k=some cs)(hno:∀ t es,cs[off]? ≠some (.o t es))(hx:x.one=true)
  (hdeep:k.dp≠C.E.dp→x.deep k.dp=true) (hbor:∀ d,(an st.fr d).cG (.c k off)=false)
  (hv:∀ vs T,w.heap[σ.κ k]? =some (.cells vs T (0,0))→CR C w σ k off x (vs.getD off undef))
  (hzt:∀ t kk u,x= .bp t kk u→∀ vs T,w.heap[σ.κ k]? =some (.cells vs T (0,0))→t=T:=by intro _ _ _ e;cases e):ah C (st.aL C.E.dp k (cs.set off x)) a w σ:=by
 have hbox:=fun k'=>jU (cs':=cs.set off x) hb k'
 obtain ⟨vs,T,hB⟩:=h.bx k cs hb
 refine ⟨h.size,h.defers,fun d=>?_,fun k' cs' hk=>?_,fun k' cs' hk hc'=>?_,h.own,h.bG,h.new,h.lay⟩
 ·rw [kG]
  refine (h.fr d).xM fun pl hpl ⟨r,hr⟩=>⟨?_,rfl⟩
  rw [hr]
  cases pl with
  | s d'=>rw [ny] at hr;exact hr.symm
  | c k' off'=>
   simp only [St.rowAt,hbox] at hr ⊢
   by_cases hk:k'=k
   ·subst hk
    by_cases ho:off=off'
    ·subst ho
     rw [hbor d] at hpl;cases hpl
    ·simp only [if_true,List.getElem?_set,if_neg ho] at hr
     simp only [hb];exact hr.symm
   ·simp only [if_neg hk] at hr
    exact hr.symm
 ·rw [hbox] at hk
  by_cases hkk:k'=k
  ·subst hkk
   simp only [if_true] at hk
   obtain rfl:=Option.some.inj hk
   refine ⟨vs,T,hB.hh,by simpa using hB.size,hB.ow,hB.wr,fun c hm=>?_,fun i c hi=>?_,fun t kk u ht=>(List.mem_or_eq_of_mem_set ht).elim (hB.ty t kk u) (fun e=>hzt t kk u e.symm vs T hB.hh)⟩
   ·rcases List.mem_or_eq_of_mem_set hm with hm | rfl
    ·exact hB.one c hm
    ·exact .inl hx
   ·rw [List.getElem?_set] at hi
    split at hi
    ·rename_i e
     split at hi
     ·obtain rfl:=Option.some.inj hi
      subst e
      exact hv vs T hB.hh
     ·cases hi
    ·exact hB.cell i c hi
  ·simp only [if_neg hkk] at hk
   exact h.bx k' cs' hk
 ·by_cases hkd:k.dp=C.E.dp
  ·simp only [St.aL,hkd,if_true] at hc'
   exact h.hpd k' cs' hk hc'
  ·simp only [St.aL,if_neg hkd,aB] at hc'
   split at hc'
   ·rename_i hkk
    subst hkk
    obtain rfl:=Option.some.inj hc'
    have hold:=h.hpd k' cs hk (by simpa [St.box,hkd] using hb)
    refine ⟨hold.1,fun c hm=>?_⟩
    rcases List.mem_or_eq_of_mem_set hm with hm | rfl
    ·exact hold.2 c hm
    ·exact hdeep hkd
   ·exact h.hpd k' cs' hk hc'
theorem set_set(cs:List AV)(off:Nat)(x y:AV):(cs.set off x).set off y=cs.set off y:=by
 apply List.ext_getElem?
 intro i
 simp only [List.getElem?_set,List.length_set]
 split<;>rfl
theorem DF(bx:List (Nat×List AV))(d:Nat)(x y:List AV):hY (hY bx d x) d y=hY bx d y:=by
 induction bx with
 | nil=>rfl
 | cons z bx ih=>
  obtain ⟨k,c⟩:=z
  simp only [hY]
  split
  ·rename_i e;subst e;simp [hY]
  ·rename_i hne;simp only [hY,if_neg hne,ih]
theorem Ew(dp:Nat)(st:St)(k:Key)(x y:List AV):(st.aL dp k x).aL dp k y=st.aL dp k y:=by
 unfold St.aL
 split
 ·simp only [DF]
 ·congr 1
  funext k'
  simp only [aB]
  split<;>rfl
theorem C9{k:Key}{off:Nat}(h:k.dp=C.E.dp):(Pl.c k off).fq C.E=true:=by simp [Pl.fq,h]
theorem ah.QX{p:tN}{st':St}(h:ah C st a w σ)(he:fy C.E st p=some st'):∃ σ',dA C w σ w σ'∧ah C st' a w σ':=by
 cases p with
 | own d t=>
  simp only [fy] at he
  split at he
  ·rename_i hx
   obtain rfl:=Option.some.inj he
   have hs:=h.fr d
   rw [hx] at hs
   have hv:=VR.yw hs
   refine ⟨σ,.refl _ _ _,(h.aT (.s d)).b5 (.inl ⟨rfl,hv⟩) (fun _ _ _ d'=>kE _ _ _) (Gi (x:=.n) h hv (by simp [undef]))⟩
  ·obtain rfl:=Option.some.inj he
   exact ⟨σ,.refl _ _ _,h⟩
  ·cases he
 | fz d=>
  simp only [fy] at he
  split at he
  ·rename_i t es hx
   obtain rfl:=Option.some.inj he
   have hs:=h.fr d
   rw [hx] at hs
   obtain ⟨σ',hst,hc,hv,_⟩:=(h.Gg d).freeze (L:=.rowS C.E.dp d) hs (rl fun t es=>by rw [iA,if_pos rfl];simp)
   have:=hc.b5 (d:=d) (x:=.l t es) hv (fun _ _ e=>by cases e) (Ng h hx)
   refine ⟨σ',hst,this.yA (fun d'=>.inr ?_) (fun _ _ h=>h) (fun _ _ _ h=>h)⟩
   simp only [iA];split<;>rfl
  ·cases he
 | ownC d off t=>
  simp only [fy] at he
  split at he
  ·rename_i k o hx
   split at he
   ·rename_i hm
    obtain ⟨cs,hb,he1⟩:=Option.bind_eq_some_iff.1 he
    clear he
    split at he1
    ·rename_i hcn
     obtain rfl:=Option.some.inj he1
     refine ⟨σ,.refl _ _ _,(h.aT (.c k (o+off))).Gj hb (fun _ _ e=>by rw [hcn] at e;cases e) rfl (fun _=>rfl) (fun d'=>kE _ _ _) fun vs T hh=>?_⟩
     obtain ⟨vs',T',hB⟩:=h.bx k cs hb
     have:=hB.cell _ _ hcn
     rw [hB.hh] at hh
     simp only [Option.some.injEq,Obj.cells.injEq] at hh
     rw [←hh.1]
     exact .inl ⟨rfl,VR.yw this⟩
    ·obtain rfl:=Option.some.inj he1
     exact ⟨σ,.refl _ _ _,h⟩
    ·cases he1
   ·cases he
  ·cases he
 | fzC d off=>
  simp only [fy] at he
  split at he
  ·rename_i k o hx
   split at he
   ·rename_i hm
    obtain ⟨cs,hb,he1⟩:=Option.bind_eq_some_iff.1 he
    clear he
    split at he1
    ·rename_i t es hco
     obtain rfl:=Option.some.inj he1
     obtain ⟨vs,T,hB⟩:=h.bx k cs hb
     have ho:OwnAt C.P C.W w σ (.rowC k (o+off)) ((Pl.c k (o+off)).fq C.E=true) t es (vs.getD (o+off) undef):=hB.cell _ _ hco
     obtain ⟨h1,hi⟩:=h.Bl (pl:=.c k (o+off)) (st':=st.aL C.E.dp k (cs.set (o+off) .u)) (by simp [St.putAt,hb])
     obtain ⟨σ',hst,hc,hv,hkap⟩:=h1.freeze (ho.xO fun _=>hm) hi
     have hbx1:(st.aL C.E.dp k (cs.set (o+off) .u)).box C.E.dp k=some (cs.set (o+off) .u):=by rw [jU hb,if_pos rfl]
     have hcell:(cs.set (o+off) AV.u)[o+off]? =some .u:=by
      rw [List.getElem?_set];simp [bc hco]
     have h2:=(hc.aT (.c k (o+off))).Gj (x:=.l t es) (off:=o+off) (cs:=cs.set (o+off) .u) hbx1 (fun _ _ e=>by rw [hcell] at e;cases e) rfl (fun _=>rfl) (fun d'=>kE _ _ _) (fun vs' T' hh=>by
      rw [hkap,hB.hh] at hh
      simp only [Option.some.injEq,Obj.cells.injEq] at hh
      rw [←hh.1]
      exact hv)
     rw [set_set] at h2
     refine ⟨σ',hst,?_⟩
     have e1:((st.aL C.E.dp k (cs.set (o+off) .u)).aT (.c k (o+off))).aL C.E.dp k (cs.set (o+off) (.l t es))=
       (st.aL C.E.dp k (cs.set (o+off) (.l t es))).aT (.c k (o+off)):=by
      have:=Ew C.E.dp st k (cs.set (o+off) .u) (cs.set (o+off) (.l t es))
      unfold St.aT
      unfold St.aL at this ⊢
      split
      ·rename_i hd;simp only [if_pos hd,DF]
      ·rename_i hd
       simp only [if_neg hd]
       congr 1
       funext k'
       simp only [aB]
       split<;>rfl
     rw [e1] at h2
     refine ⟨h2.size,h2.defers,fun d'=>?_,h2.bx,h2.hpd,h2.own,h2.bG,h2.new,h2.lay⟩
     have hnr:(st.aL C.E.dp k (cs.set (o+off) (.l t es))).rowAt C.E.dp (.c k (o+off))=none:=by
      simp only [St.rowAt,jU hb,if_true,List.getElem?_set,if_pos (bc hco)]
     by_cases hbb:(an (st.aL C.E.dp k (cs.set (o+off) (.l t es))).fr d').cG (.c k (o+off))=true
     ·cases hy:an (st.aL C.E.dp k (cs.set (o+off) (.l t es))).fr d'<;>rw [hy] at hbb<;>simp [AV.cG] at hbb
      ·subst hbb;intro hs;rw [hnr] at hs;cases hs
      ·subst hbb;intro t' es' hs;rw [hnr] at hs;cases hs
      ·subst hbb;intro t' es' hs;rw [hnr] at hs;cases hs
     ·have:=h2.fr d'
      have e2:an ((st.aL C.E.dp k (cs.set (o+off) (.l t es))).aT (.c k (o+off))).fr d'=an (st.aL C.E.dp k (cs.set (o+off) (.l t es))).fr d':=by
       simp only [St.aT,jS,if_neg hbb]
      rw [e2] at this
      exact this.xM fun pl _ _=>⟨(Ha _ _ _ _).symm,rfl⟩
    ·obtain rfl:=Option.some.inj he1
     exact ⟨σ,.refl _ _ _,h⟩
    ·cases he1
   ·cases he
  ·cases he
 | fzB d agg=>
  simp only [fy] at he
  split at he
  ·rename_i k hx
   split at he
   ·rename_i hkd
    obtain ⟨cs,hb,he1⟩:=Option.bind_eq_some_iff.1 he
    clear he
    split at he1
    ·rename_i hp
     have hb':st.box C.E.dp k=some cs:=by simp [St.box,hkd,hb]
     obtain ⟨vs,T,hB⟩:=h.bx k cs hb'
     have hs:=h.fr d
     rw [hx] at hs
     have hv:=VR.il hs
     have hpl:=iq hp
     have hno:∀ c∈cs,∀ t es,c≠.o t es:=fun c hc t es e=>by have:=hpl c hc;rw [e] at this;cases this
     have hone:∀ c∈cs,c.one=true:=fun c hc=>(hB.one c hc).resolve_right fun e=>by have:=hpl c hc;rw [e] at this;cases this
     have h1:ah C {st with bx:=st.bx.filter fun y=>y.1 !=k.d} a w σ:=by
      refine h.yA (fun _=>.inr rfl) (fun k' cs' hk=>?_) (fun _ _ _ h=>h)
      by_cases hd:k'.dp=C.E.dp
      ·simp only [St.box,hd,if_true] at hk ⊢
       have hf:∀ bx:List (Nat×List AV),az (bx.filter fun y=>y.1 !=k.d) k'.d=some cs'→az bx k'.d=some cs':=by
        intro bx
        induction bx with
        | nil=>exact id
        | cons z bx ih=>
         intro hz
         simp only [List.filter_cons] at hz
         split at hz
         ·simp only [az] at hz ⊢
          split
          ·rename_i e;rw [if_pos e] at hz;exact hz
          ·rename_i e;rw [if_neg e] at hz;exact ih hz
         ·rename_i hne
          simp only [az]
          split
          ·rename_i e
           exfalso
           have h3:z.1=k.d:=by simpa using hne
           have hf2:∀ bx:List (Nat×List AV),az (bx.filter fun y=>y.1 !=k.d) k.d=none:=by
            intro bx
            induction bx with
            | nil=>rfl
            | cons y bx ih=>
             simp only [List.filter_cons]
             split
             ·rename_i h4
              have:y.1≠k.d:=by simpa using h4
              simp only [az,if_neg this,ih]
             ·exact ih
           rw [←e,h3,hf2] at hz;cases hz
          ·exact ih hz
       exact hf _ hk
      ·simp only [St.box,if_neg hd] at hk ⊢;exact hk
     have hgone:({st with bx:=st.bx.filter fun y=>y.1 !=k.d} : St).box C.E.dp k=none:=by
      simp only [St.box,hkd,if_true]
      have hf2:∀ bx:List (Nat×List AV),az (bx.filter fun y=>y.1 !=k.d) k.d=none:=by
       intro bx
       induction bx with
       | nil=>rfl
       | cons y bx ih=>
        simp only [List.filter_cons]
        split
        ·rename_i h4
         have:y.1≠k.d:=by simpa using h4
         simp only [az,if_neg this,ih]
        ·exact ih
      exact hf2 _
     have hi:Idle C {st with bx:=st.bx.filter fun y=>y.1 !=k.d} (some (.box k)):=
      ⟨fun _ _ _ _=>by simp,fun k' cs' hk e=>(by simp only [Option.some.injEq,dz.box.injEq] at e;subst e;rw [hgone] at hk;cases hk),fun _ _ _ _ _ _ _=>by simp,fun _=>by simp⟩
     have h2:=h1.MD hB.ow hi
     have hW:C.W (σ.κ k):=hB.wr (C9 hkd)
     have hlt:d<C.nt:=Gi (x:=.p k 0) h hv (by simp [undef])
     have hfin:∀ x:AV,x.cl=cs→x.pure=true→(∀ t es,x≠.o t es)→ah C {(st.b5 d (.e x 0)) with bx:=st.bx.filter fun y=>y.1 !=k.d} a w (σ.eh (σ.κ k)):=by
      intro x hcl hxp _
      refine h2.b5 (d:=d) (x:=.e x 0) ?_ (fun _ _ e=>by cases e) hlt
      rw [hv]
      have:=VR.e (w:=w) (I:=(σ.eh (σ.κ k)).I) (κ:=(σ.eh (σ.κ k)).κ) x 0 (σ.κ k) 0 vs T (0,0) (.inr rfl) hB.hh hxp (by unfold AV.nc;rw [hcl,hB.size];omega) (by rw [hcl];exact hone) (fun m c hm=>by
       rw [hcl] at hm
       rw [Nat.zero_add]
       have hcm:=List.mem_of_getElem? hm
       exact (QW (hpl c hcm) (hB.cell m c hm)).xS (fun _ h=>.inl h) (fun _ _=>rfl) (hpl c hcm))
      exact this
     split at he1
     ·obtain rfl:=Option.some.inj he1
      exact ⟨_,.eh hW,hfin (.a cs) rfl (jX hpl) (fun _ _ e=>by cases e)⟩
     ·split at he1
      ·rename_i c
       obtain rfl:=Option.some.inj he1
       have hc1:=hone c (by simp)
       have hcl:c.cl=[c]:=by cases c<;>first | rfl | (simp [AV.one] at hc1)
       exact ⟨_,.eh hW,hfin c hcl (hpl c (by simp)) (hno c (by simp))⟩
      ·cases he1
    ·cases he1
   ·cases he
  ·cases he
theorem ah.pre:∀ (ps:List tN){st st':St}{σ:Sp},ah C st a w σ→rZ C.E st ps=some st'→∃ σ',dA C w σ w σ'∧ah C st' a w σ'
 | [],st,st',σ,h,he=>by obtain rfl:=Option.some.inj he;exact ⟨σ,.refl _ _ _,h⟩
 | p::ps,st,st',σ,h,he=>by
  obtain ⟨st1,h1,h2⟩:=Option.bind_eq_some_iff.1 he
  obtain ⟨σ1,hs1,hc1⟩:=h.QX h1
  obtain ⟨σ2,hs2,hc2⟩:=ah.pre ps hc1 h2
  exact ⟨σ2,hs1.trans hs2,hc2⟩
end
end Go.Proofs.YtogbakbmphadfaaGreatDoor.A
