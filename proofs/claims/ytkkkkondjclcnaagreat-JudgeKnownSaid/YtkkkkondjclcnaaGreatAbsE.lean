/- append: the model does what the abstract run says. -/
import Derived.Test.YtkkkkondjclcnaaGreatAbsA
set_option linter.unusedSectionVars false
set_option linter.unusedVariables false
set_option linter.unusedSimpArgs false
set_option linter.constructorNameAsVariable false
namespace Go.Proofs.YtkkkkondjclcnaaGreat.A
open Go
variable [aY]
structure Flat(w:World)(I:Nat→Prop)(κ:Key→Nat)(sz:Nat)(es:List AV)(vs:List Value):Prop where
 len:vs.length=es.length*sz
 nc:∀ e∈es,e.nc=sz
 pure:∀ e∈es,e.pure=true
 one:∀ e∈es,∀ c∈e.cl,c.one=true
 cell:∀ (j:Nat)(e:AV)(m:Nat)(c:AV),es[j]? =some e→e.cl[m]? =some c→VR w I κ c (vs[j*sz+m]?.getD undef)
section
variable {w:World}{I:Nat→Prop}{κ:Key→Nat}{sz:Nat}
theorem yq{e:AV}{j m n:Nat}(hj:j<n)(hm:m<e.cl.length)(he:e.nc=sz):j*sz+m<n*sz:=by
 have:(j+1)*sz≤n*sz:=Nat.mul_le_mul_right _ hj
 rw [Nat.add_mul] at this
 have he':e.cl.length=sz:=he
 omega
theorem Flat.nil:Flat w I κ sz [] []:=⟨by simp,by simp,by simp,by simp,fun j e m c h=>by simp at h⟩
theorem Flat.append{es fs:List AV}{vs us:List Value}(h:Flat w I κ sz es vs)(h':Flat w I κ sz fs us):Flat w I κ sz (es++fs) (vs++us):=by
 refine ⟨by simp [h.len,h'.len,Nat.add_mul],fun e he=>?_,fun e he=>?_,fun e he=>?_,fun j e m c hj hm=>?_⟩
 ·rcases List.mem_append.1 he with he | he
  ·exact h.nc e he
  ·exact h'.nc e he
 ·rcases List.mem_append.1 he with he | he
  ·exact h.pure e he
  ·exact h'.pure e he
 ·rcases List.mem_append.1 he with he | he
  ·exact h.one e he
  ·exact h'.one e he
 ·have hml:=bq hm
  rw [List.getElem?_append] at hj
  split at hj
  ·rename_i hlt
   have:=yq hlt hml (h.nc e (List.mem_of_getElem? hj))
   rw [List.getElem?_append,if_pos (by rw [h.len];exact this)]
   exact h.cell j e m c hj hm
  ·rename_i hge
   have hle:es.length*sz≤j*sz:=Nat.mul_le_mul_right _ (by omega)
   rw [List.getElem?_append,if_neg (by rw [h.len];omega),h.len]
   have:=h'.cell (j - es.length) e m c hj hm
   rw [Nat.sub_mul] at this
   rwa [show j*sz+m - es.length*sz=j*sz - es.length*sz+m by omega]
theorem Flat.VZ{es:List AV}{vs:List Value}(h:Flat w I κ sz es vs):∀ u∈vs,u.oneCell'=true:=by
 intro u hu
 obtain ⟨i,hi⟩:=List.mem_iff_getElem?.1 hu
 have hil:=bq hi
 rw [h.len] at hil
 have hpos:0<sz:=Nat.pos_of_ne_zero fun e=>by subst e;simp at hil
 have hj:i / sz<es.length:=Nat.div_lt_of_lt_mul (by rw [Nat.mul_comm];exact hil)
 have hm:i % sz<sz:=Nat.mod_lt _ hpos
 have he:=List.getElem_mem hj
 have hml:i % sz<(es[i / sz]).cl.length:=by
  have:(es[i / sz]).cl.length=sz:=h.nc _ he
  omega
 have:=h.cell _ _ _ _ (List.getElem?_eq_getElem hj) (List.getElem?_eq_getElem hml)
 rw [Nat.mul_comm,Nat.div_add_mod,hi] at this
 exact this.EY (h.one _ he _ (List.getElem_mem hml))
theorem Flat.CC{es:List AV}{cs:Array Value}{o:Nat}(hnc:∀ e∈es,e.nc=sz)(hp:∀ e∈es,e.pure=true)(h1:∀ e∈es,∀ c∈e.cl,c.one=true)(hs:o+es.length*sz≤cs.size)
  (hc:∀ (j:Nat)(e:AV)(m:Nat)(c:AV),es[j]? =some e→e.cl[m]? =some c→VR w I κ c (cs.getD (o+j*sz+m) undef)):Flat w I κ sz es ((cs.toList.drop o).take (es.length*sz)):=by
 refine ⟨by simp;omega,hnc,hp,h1,fun j e m c hj hm=>?_⟩
 have:=yq (bq hj) (bq hm) (hnc e (List.mem_of_getElem? hj))
 have hv:=hc j e m c hj hm
 rw [List.getElem?_take,if_pos this,List.getElem?_drop]
 rw [Nat.add_assoc] at hv
 simpa [Array.getD_eq_getD_getElem?] using hv
theorem zf{g o n:Nat}{cs:Array Value}{T:TypeId}{fz:Nat×Nat}(hh:w.heap[g]? =some (.cells cs T fz)):∀ j u,((cs.toList.drop o).take n)[j]? =some u→w.cell? ((⟨g,o,none⟩:Addr).add j)=some u:=by
 intro j u hj
 rw [add_lit,s0 hh]
 rw [List.getElem?_take] at hj
 split at hj
 ·rw [List.getElem?_drop] at hj
  simpa using hj
 ·cases hj
end
section
variable {C:Cx}{st:St}{a:Act}{w:World}{σ:Sp}{o:Oper}{d:Option Nat}{R:Rec}{Ω:cm}{r:AV×St}
theorem dT.flat{L:cQ}{wp:Prop}{t:TypeId}{es:List AV}{g cap:Nat}{cs:Array Value}(hR:dT C.P C.W w σ L wp t es g cap cs):Flat w σ.I σ.κ (C.P.cellsOf t) es ((cs.toList.drop 0).take (es.length*C.P.cellsOf t)):=
 .CC hR.nc hR.pure hR.one (by rw [hR.size,Nat.zero_add];exact Nat.mul_le_mul_right _ hR.ecap) (fun j e m c hj hm=>by rw [Nat.zero_add];exact hR.cell j e m c hj hm)
theorem Flat.part{sz lo len:Nat}{es:List AV}{vs:List Value}{I:Nat→Prop}{κ:Key→Nat}(h:Flat w I κ sz es vs)(hle:lo+len≤es.length):Flat w I κ sz ((es.drop lo).take len) ((vs.drop (lo*sz)).take (len*sz)):=by
 have hm:∀ e∈(es.drop lo).take len,e∈es:=fun e he=>List.mem_of_mem_drop (List.mem_of_mem_take he)
 refine ⟨?_,fun e he=>h.nc e (hm e he),fun e he=>h.pure e (hm e he),fun e he=>h.one e (hm e he),fun j e m c hj hq=>?_⟩
 ·have:(lo+len)*sz≤es.length*sz:=Nat.mul_le_mul_right _ hle
  rw [Nat.add_mul] at this
  have e1:min len (es.length - lo)=len:=by omega
  simp [h.len,e1];omega
 ·rw [List.getElem?_take] at hj
  split at hj
  ·rename_i hlt
   rw [List.getElem?_drop] at hj
   have:=yq hlt (bq hq) (h.nc e (List.mem_of_getElem? hj))
   rw [List.getElem?_take,if_pos this,List.getElem?_drop]
   have hv:=h.cell _ e m c hj hq
   rwa [Nat.add_mul,Nat.add_assoc] at hv
  ·cases hj
theorem ad.src(h:ad C st a w σ){y:Operand}{x:aO}{q:TypeId×List AV}{sz:Nat}{tx e':TypeId}(hk:C.P.underlying tx=some (.slice e'))(hl:bh y x=true)(he:st.elems C.E.dp (st.ev x)=some q)(hnc:∀ e∈q.2,e.nc=sz) :
  ∃ news,Src C.P sz tx (a.eval y) q.2.length news w∧Flat w σ.I σ.κ sz q.2 news∧(q.2≠[]→∃ b n c,a.eval y= .slice (some b) n c∧n=q.2.length∧∀ j u,news[j]? =some u→w.cell? (b.add j)=some u):=by
 have hnil:∀ A c,a.eval y= .slice A 0 c→q.2=[]→∃ news,Src C.P sz tx (a.eval y) q.2.length news w∧Flat w σ.I σ.κ sz q.2 news∧(q.2≠[]→∃ b n c,a.eval y= .slice (some b) n c∧n=q.2.length∧∀ j u,news[j]? =some u→w.cell? (b.add j)=some u):=by
  intro A c hv hq
  refine ⟨[],?_,by rw [hq];exact .nil,fun hne=>absurd hq hne⟩
  rw [hv,hq]
  cases A with
  | none=>exact Src.ofNil w hk c
  | some b=>exact Src.ofSlice w hk b 0 c [] (by simp) (fun j u hj=>by simp at hj) (fun u hu=>by cases hu)
 have hsome:∀ b n c news,a.eval y= .slice (some b) n c→n=q.2.length→Flat w σ.I σ.κ sz q.2 news→(∀ j u,news[j]? =some u→w.cell? (b.add j)=some u)→
   ∃ news,Src C.P sz tx (a.eval y) q.2.length news w∧Flat w σ.I σ.κ sz q.2 news∧(q.2≠[]→∃ b n c,a.eval y= .slice (some b) n c∧n=q.2.length∧∀ j u,news[j]? =some u→w.cell? (b.add j)=some u):=by
  intro b n c news hv hn hf hcell
  refine ⟨news,?_,hf,fun _=>⟨b,n,c,hv,hn,hcell⟩⟩
  rw [hv,hn]
  exact Src.ofSlice w hk b _ c news hf.len hcell hf.VZ
 have hrow:∀ pl t es,st.rowAt C.E.dp pl=some (t,es)→a.eval y=dQ w σ a pl→q=(t,es)→
   ∃ news,Src C.P sz tx (a.eval y) q.2.length news w∧Flat w σ.I σ.κ sz q.2 news∧(q.2≠[]→∃ b n c,a.eval y= .slice (some b) n c∧n=q.2.length∧∀ j u,news[j]? =some u→w.cell? (b.add j)=some u):=by
  intro pl t es hr hv hq
  subst hq
  rcases h.row hr with ⟨h1,h2⟩ | ⟨g,cap,cs,h2,hR⟩
  ·exact hnil none 0 (hv.trans h2) h1
  ·by_cases hne:es=[]
   ·exact hnil (some ⟨g,0,none⟩) cap (by rw [hv,h2,hne];rfl) hne
   ·have hsz:C.P.cellsOf t=sz:=by
     cases es with
     | nil=>exact absurd rfl hne
     | cons e es=>exact (hR.nc e (by simp)).symm.trans (hnc e (by simp))
    have hf:=hR.flat
    rw [hsz] at hf
    exact hsome _ _ cap _ (hv.trans h2) rfl hf (zf hR.hh)
 cases hx:st.ev x with
 | l t es=>
  rw [hx] at he
  obtain rfl:=Option.some.inj he
  obtain ⟨A,cap,hv,hes⟩:=(hx▸h.dR hl (by rw [hx];simp) (by rw [hx];rfl)).GM
  rcases hes with hes | ⟨g,o,cs,T,fz,sz',rfl,hI,hh,ht,hpos,hnc',hsize,hp,h1,hcap,hmax,hc⟩
  ·subst hes
   exact hnil A cap hv rfl
  ·by_cases hne:es=[]
   ·subst hne;exact hnil _ cap hv rfl
   ·have hsz:sz'=sz:=by
     cases es with
     | nil=>exact absurd rfl hne
     | cons e es=>exact (hnc' e (by simp)).symm.trans (hnc e (by simp))
    subst hsz
    exact hsome _ _ cap _ hv rfl (.CC hnc' hp h1 hsize hc) (zf hh)
 | n=>
  rw [hx] at he
  obtain rfl:=Option.some.inj he
  exact hnil none 0 (hx▸h.dR hl (by rw [hx];simp) (by rw [hx];rfl)).Br rfl
 | o t es=>
  rw [hx] at he
  obtain rfl:=Option.some.inj he
  obtain ⟨n,rfl,hn⟩:=cS hx rfl hl
  exact hrow (.s n) t es (by simp [St.rowAt,hn]) (by rw [yp hl];rfl) rfl
 | r pl=>
  rw [hx] at he
  obtain ⟨n,rfl,hn⟩:=cS hx rfl hl
  have hr:st.rowAt C.E.dp pl=some q:=he
  exact hrow pl q.1 q.2 hr ((hn▸h.slot hl) (by rw [hr];rfl)) rfl
 | v pl lo len=>
  rw [hx] at he
  obtain ⟨n,rfl,hn⟩:=cS hx rfl hl
  simp only [St.elems] at he
  split at he
  ·rename_i t es hr
   split at he
   ·rename_i hll
    obtain rfl:=Option.some.inj he
    obtain ⟨A,n',cap,hpv,hv⟩:=(hn▸h.slot hl) t es hr hll
    have hlen:((es.drop lo).take len).length=len:=by simp;omega
    by_cases hne:len=0
    ·subst hne
     refine hnil _ _ hv (by simp)
    ·obtain ⟨g,cap',cs,hpv',hR⟩:=h.y4 hr (fun e=>by subst e;simp at hll;omega)
     obtain ⟨rfl,rfl,rfl⟩:A=some ⟨g,0,none⟩∧n'=es.length∧cap=cap':=by
      rw [hpv] at hpv';simpa using hpv'
     have hec:=hR.ecap
     have hsz:C.P.cellsOf t=sz:=by
      cases hq:(es.drop lo).take len with
      | nil=>rw [hq] at hlen;simp at hlen;omega
      | cons e fs=>
       have he:e∈(es.drop lo).take len:=by rw [hq];simp
       exact (hR.nc e (List.mem_of_mem_drop (List.mem_of_mem_take he))).symm.trans (hnc e he)
     rw [if_neg (by omega),hsz] at hv
     simp only [Option.map_some,add_lit,Nat.zero_add] at hv
     refine hsome ⟨g,lo*sz,none⟩ len (cap - lo) ((cs.toList.drop (lo*sz)).take (((es.drop lo).take len).length*sz)) hv hlen.symm ?_ (zf hR.hh)
     refine .CC hnc (fun e he=>hR.pure e (List.mem_of_mem_drop (List.mem_of_mem_take he))) (fun e he=>hR.one e (List.mem_of_mem_drop (List.mem_of_mem_take he))) ?_ fun j e m c hj hm=>?_
     ·rw [hlen,hR.size,hsz,←Nat.add_mul]
      exact Nat.mul_le_mul_right _ (by omega)
     ·rw [List.getElem?_take] at hj
      split at hj
      ·rw [List.getElem?_drop] at hj
       have:=hR.cell _ e m c hj hm
       rwa [hsz,Nat.add_mul] at this
      ·cases hj
   ·cases he
  ·cases he
 | _=>rw [hx] at he;cases he
theorem ad.Iy{k:Key}{cs:List AV}{off:Nat}(h:ad C st a w σ)(hb:st.box C.E.dp k=some cs):ad C (st.aC C.E.dp k (cs.set off .u)) a w σ:=by
 have hbox:=fun k'=>fX (cs':=cs.set off .u) hb k'
 have hget:∀ (i:Nat)(c:AV),(cs.set off AV.u)[i]? =some c→c=AV.u∨cs[i]? =some c:=by
  intro i c hi
  rw [List.getElem?_set] at hi
  split at hi
  ·split at hi
   ·exact .inl (Option.some.inj hi).symm
   ·cases hi
  ·exact .inr hi
 refine ⟨h.size,h.defers,fun d=>?_,fun k' cs' hk=>?_,fun k' cs' hk hc'=>?_,h.own,h.ba,h.new,h.lay⟩
 ·rw [mK]
  refine (h.fr d).AK fun pl _ ⟨r,hr⟩=>⟨?_,rfl⟩
  rw [hr]
  cases pl with
  | s d'=>rw [pF] at hr;exact hr.symm
  | c k' off'=>
   simp only [St.rowAt,hbox] at hr ⊢
   by_cases hk:k'=k
   ·subst hk
    simp only [if_true] at hr
    cases hc:(cs.set off AV.u)[off']? with
    | none=>simp [hc] at hr
    | some c=>
     rw [hc] at hr
     rcases hget _ _ hc with rfl | h2
     ·simp at hr
     ·simp only [hb,h2];exact hr.symm
   ·simp only [if_neg hk] at hr
    exact hr.symm
 ·rw [hbox] at hk
  by_cases hkk:k'=k
  ·subst hkk
   simp only [if_true] at hk
   obtain rfl:=Option.some.inj hk
   obtain ⟨vs,T,hB⟩:=h.bx k' cs hb
   refine ⟨vs,T,hB.hh,by simpa using hB.size,hB.ow,hB.wr,fun c hm=>?_,fun i c hi=>?_,fun t kk u ht=>(List.mem_or_eq_of_mem_set ht).elim (fun hm=>by simpa using hB.ty t kk u hm) (fun e=>by cases e),hB.kb⟩
   ·rcases List.mem_or_eq_of_mem_set hm with hm | rfl
    ·exact hB.one c hm
    ·exact .inr rfl
   ·rcases hget i c hi with rfl | h2
    ·exact VR.u _
    ·exact hB.cell i c h2
  ·simp only [if_neg hkk] at hk
   exact h.bx k' cs' hk
 ·by_cases hkd:k.dp=C.E.dp
  ·simp only [St.aC,hkd,if_true] at hc'
   exact h.hpd k' cs' hk hc'
  ·simp only [St.aC,if_neg hkd,ab] at hc'
   split at hc'
   ·rename_i hkk
    subst hkk
    obtain rfl:=Option.some.inj hc'
    have hold:=h.hpd k' cs hk (by simpa [St.box,hkd] using hb)
    refine ⟨hold.1,fun c hm=>?_⟩
    rcases List.mem_or_eq_of_mem_set hm with hm | rfl
    ·exact hold.2 c hm
    ·rfl
   ·exact h.hpd k' cs' hk hc'
theorem ad.AP{pl:Pl}{st':St}(h:ad C st a w σ)(hp:st.putAt C.E.dp .u pl=some st'):ad C st' a w σ∧Idle C st' (some (pl.nS C.E.dp)):=by
 cases pl with
 | s d=>
  obtain rfl:=Option.some.inj hp
  exact ⟨h.Iw d,tW fun t es=>by rw [jO,if_pos rfl];simp⟩
 | c k off=>
  simp only [St.putAt] at hp
  split at hp
  ·rename_i cs hb
   obtain rfl:=Option.some.inj hp
   refine ⟨h.Iy hb,⟨fun _ _ _ _=>by simp [Pl.nS],fun _ _ _=>by simp [Pl.nS],fun k' cs' off' t es hk hc e=>?_,fun _=>by simp [Pl.nS],by simp [Pl.nS]⟩⟩
   simp only [Pl.nS,Option.some.injEq,cQ.rowC.injEq] at e
   obtain ⟨rfl,rfl⟩:=e
   rw [fX hb,if_pos rfl] at hk
   obtain rfl:=Option.some.inj hk
   rw [List.getElem?_set] at hc
   simp at hc
  ·cases hp
theorem ad.consume(h:ad C st a w σ){y:Operand}{x:aO}{t:TypeId}{q:List AV×St}(hl:bh y x=true)(he:consume C.E st t x=some q) :
  ad C q.2 a w σ∧((q.1=[]∧a.eval y= .slice none 0 0)∨
   ∃ L g cap cs,a.eval y= .slice (some ⟨g,0,none⟩) q.1.length cap∧dT C.P C.W w σ L True t q.1 g cap cs∧Idle C q.2 (some L)):=by
 have hfin:∀ {pl es st' v},ad C st' a w σ→Idle C st' (some (Pl.nS C.E.dp pl))→OwnAt C.P C.W w σ (pl.nS C.E.dp) True t es v→a.eval y=v→q=(es,st')→
   ad C q.2 a w σ∧((q.1=[]∧a.eval y= .slice none 0 0)∨∃ L g cap cs,a.eval y= .slice (some ⟨g,0,none⟩) q.1.length cap∧dT C.P C.W w σ L True t q.1 g cap cs∧Idle C q.2 (some L)):=by
  intro pl es st' v hc hi ho hv hq
  subst hq
  refine ⟨hc,?_⟩
  rcases ho with ⟨h1,h2⟩ | ⟨g,cap,cs,h2,hR⟩
  ·exact .inl ⟨h1,hv.trans h2⟩
  ·exact .inr ⟨_,g,cap,cs,hv.trans h2,hR,hi⟩
 unfold A.consume at he
 split at he
 ·obtain rfl:=Option.some.inj he
  exact ⟨h,.inl ⟨rfl,(h.su (x:=.c .n) hl rfl).Br⟩⟩
 ·cases he
 ·rename_i m
  have hs:=h.slot hl
  split at he
  ·rename_i hx
   obtain rfl:=Option.some.inj he
   rw [hx] at hs
   exact ⟨h,.inl ⟨rfl,VR.Br hs⟩⟩
  ·rename_i t' es hx
   split at he
   ·rename_i htt
    subst htt
    rw [hx] at hs
    exact hfin (pl:=.s m) (h.Iw m) (tW fun t es=>by rw [jO,if_pos rfl];simp) hs rfl (Option.some.inj he).symm
   ·cases he
  ·rename_i pl hx
   split at he
   ·rename_i hm
    obtain ⟨⟨t',es⟩,hr,he1⟩:=Option.bind_eq_some_iff.1 he
    clear he
    simp only at he1
    split at he1
    ·rename_i htt
     subst htt
     obtain ⟨st',hp,he2⟩:=Option.bind_eq_some_iff.1 he1
     clear he1
     obtain ⟨h1,h2⟩:=h.AP hp
     rw [hx] at hs
     exact hfin h1 h2 ((h.row hr).AL fun _=>hm) (hs (by rw [hr];rfl)) (Option.some.inj he2).symm
    ·cases he1
   ·cases he
  ·rename_i pl lo len hx
   split at he
   ·rename_i hm
    simp only [Bool.and_eq_true,beq_iff_eq] at hm
    obtain ⟨hm,hlo⟩:=hm
    obtain ⟨⟨t',es⟩,hr,he1⟩:=Option.bind_eq_some_iff.1 he
    clear he
    simp only at he1
    split at he1
    ·rename_i htt
     obtain ⟨hle,htt⟩:=htt
     obtain ⟨st',hp,he2⟩:=Option.bind_eq_some_iff.1 he1
     clear he1
     obtain ⟨h1,h2⟩:=h.AP hp
     rw [hx] at hs
     subst hlo
     have hv:=hs t' es hr (by omega)
     subst htt
     exact hfin h1 h2 (((h.row hr).short hle hv).AL fun _=>hm) rfl (Option.some.inj he2).symm
    ·cases he1
   ·cases he
  ·cases he
theorem V0{t sz by_:Nat}{x y:aO}(h:ad C st a w σ)(hl:aV C.P (.ap t sz by_ x y) o.op=true)(he:execOp R Ω C.E st d (.ap t sz by_ x y)=some r) :
  cX C o d a w σ r.2 r.1:=by
 obtain ⟨c,x',y',ty,hop,hcal,hargs,htys,hlx,hly,hty,hsz,hby,hz⟩:∃ c x' y' ty,o.op= .call c∧c.callee= .builtin .append∧c.args.toList=[x',y']∧c.argTypes.toList=[ty,ty]∧bh x' x=true∧bh y' y=true∧
   iZ C.P ty=some t∧sized C.P t sz=true∧C.P.bytesOf t=by_∧∃ zv,zeroOf C.P t=some zv∧zv.cells.size=sz:=by
  simp only [aV] at hl;split at hl
  ·rename_i c hy
   simp only [Bool.and_eq_true] at hl
   obtain ⟨h1,h2⟩:=hl
   split at h1
   ·rename_i hcal
    split at h2
    ·rename_i x' y' t1 t2 ha ht
     simp only [Bool.and_eq_true,beq_iff_eq] at h2
     obtain ⟨⟨⟨⟨⟨⟨h3,h4⟩,h5⟩,h6⟩,h7⟩,h8⟩,h9⟩:=h2
     subst h5
     split at h9
     ·rename_i zv hzv
      exact ⟨c,x',y',t1,hy,hcal,ha,ht,h3,h4,h6,h7,h8,zv,hzv,by simpa using h9⟩
     ·cases h9
    ·cases h2
   ·cases h1
  ·cases hl
 obtain ⟨zv,hzv,hzs⟩:=hz
 have hu:=wj hty
 obtain ⟨i,hi,hiz⟩:=uZ hzv
 obtain ⟨_,hcells,hpos⟩:=mJ hsz
 have hisz:i.size=sz:=by rw [←hcells];simp [Program.cellsOf,hi]
 have hiby:i.bytes=by_:=by rw [←hby];simp [Program.bytesOf,hi]
 have hargs':c.args=#[x',y']:=by rw [←Array.toArray_toList (xs:=c.args),hargs]
 have htys':c.argTypes=#[ty,ty]:=by rw [←Array.toArray_toList (xs:=c.argTypes),htys]
 have hrun:∀ cv w',(Builtin.append_ #[ty,ty] o.type #[a.eval x',a.eval y']).run C.P w= .ok cv w'→(Go.execOp a.eval o).run C.P w= .ok (.value cv) w':=by
  intro cv w' hr
  unfold Go.execOp
  simp [hop,resolve,hcal,hargs',htys',invoke,builtin,hr]
 simp only [execOp] at he
 obtain ⟨dd,hdd,he1⟩:=Option.bind_eq_some_iff.1 he
 clear he
 obtain ⟨ys,hys,he2⟩:=Option.bind_eq_some_iff.1 he1
 clear he1
 obtain ⟨q,hq,he3⟩:=Option.bind_eq_some_iff.1 he2
 clear he2
 split at he3
 ·rename_i hcond
  simp only [Bool.and_eq_true,decide_eq_true_eq] at hcond
  obtain ⟨⟨hnc,hbytes⟩,hmax⟩:=hcond
  obtain rfl:=Option.some.inj he3
  have hnc':∀ e∈ys.2,e.nc=sz:=fun e he=>by simpa using List.all_eq_true.1 hnc e he
  obtain ⟨news,hsrc,hf,hsl⟩:=h.src (sz:=sz) hu hly hys hnc'
  obtain ⟨hc,hdst⟩:=h.consume hlx hq
  have hsrc':Src C.P i.size ty (a.eval y') ys.2.length news w:=by rw [hisz];exact hsrc
  have hm63:(((q.1.length+ys.2.length:Nat):Int))≤9223372036854775807:=by simp [maxLen] at hmax;omega
  have hgrow:∀ A cap olds,a.eval x'= .slice A q.1.length cap→q.1.length≤cap→(Builtin.firstCells i.size q.1.length (.slice A q.1.length cap)).run C.P w.drew= .ok olds.toArray w.drew→Flat w σ.I σ.κ sz q.1 olds→
    cap<q.1.length+ys.2.length→cX C o d a w σ (q.2.aL (.s dd)) (.o t (q.1++ys.2)):=by
   intro A cap olds hv hle hold hfo hlt
   have hap:=run_append_grow_src (P:=C.P) w ty ty o.type t i zv hu hi hiz A q.1.length cap olds hold _ _ news hsrc' hlt hm63
    (growslice_fits hlt (by rw [hiby];exact hbytes))
   have hge:=grownCap_ge w (q.1.length+ys.2.length) cap t
   have hgm:=grownCap_le_maxLen w (q.1.length+ys.2.length) cap t hmax
   generalize hN:grownCap w (q.1.length+ys.2.length) cap t=N at hap hge hgm
   have hff:=hfo.append hf
   have hlen:(olds++news).length=(q.1.length+ys.2.length)*sz:=by rw [hff.len,List.length_append]
   obtain ⟨σ',hst,hc',ho,_⟩:=(hc.aL (.s dd)).drew.newRow (L:=.rowS C.E.dp dd) (t:=t) (es:=q.1++ys.2) (cap:=N) (cs:=(olds++news).toArray++Builtin.zeroCells zv.cells (N - (q.1.length+ys.2.length)))
    (by omega) (fun e he=>by rw [hcells];exact hff.nc e he) (by simpa using hge) hgm
    (by
     rw [Array.size_append,size_zeroCells,hzs,hcells,List.size_toArray,hlen,←Nat.add_mul]
     congr 1;omega) hff.pure hff.one (fun j e m c hj hq'=>by
      have hlt2:=yq (bq hj) (bq hq') (hff.nc e (List.mem_of_getElem? hj))
      rw [List.length_append] at hlt2
      rw [hcells,Array.getD_eq_getD_getElem?,Array.getElem?_append,if_pos (by rw [List.size_toArray,hlen];exact hlt2),List.getElem?_toArray]
      exact (hff.cell j e m c hj hq').mono (fun _ h=>h) (fun _ _=>rfl) (fun _ _=>rfl))
   rw [List.length_append] at ho
   exact .iN (hrun _ _ (by rw [hv];exact hap)) (ad.rH hdd hst.drew hc' ho)
  rcases hdst with ⟨h1,h2⟩ | ⟨L,g,cap,cs,hv,hR,hid⟩
  ·
   rw [h1] at hgrow hm63 ⊢
   by_cases hys0:ys.2=[]
   ·have hap:=run_append_nothing (P:=C.P) w ty ty o.type t i hu hi none 0 0 (Nat.le_refl _) (a.eval y') (by
     have:=hsrc'
     rw [hys0] at this
     have hn:news=[]:=List.eq_nil_of_length_eq_zero (by rw [hf.len,hys0];simp)
     rw [hn] at this
     exact this)
    rw [hys0]
    exact .iN (hrun _ _ (by rw [h2];exact hap)) (ad.rH hdd (.refl _ _ _) (hc.aL _) (.inl ⟨rfl,rfl⟩))
   ·have hpos':0<ys.2.length:=by cases hq:ys.2 with | nil=>exact absurd hq hys0 | cons=>simp
    exact hgrow none 0 [] h2 (Nat.le_refl _) (by rw [run_firstCells_none]) .nil (by simpa using hpos')
  ·have hszt:C.P.cellsOf t=sz:=hcells
   by_cases hys0:ys.2=[]
   ·have hap:=run_append_nothing (P:=C.P) w ty ty o.type t i hu hi (some ⟨g,0,none⟩) q.1.length cap hR.ecap (a.eval y') (by
     have:=hsrc'
     rw [hys0] at this
     have hn:news=[]:=List.eq_nil_of_length_eq_zero (by rw [hf.len,hys0];simp)
     rw [hn] at this
     exact this)
    rw [hys0,List.append_nil]
    refine .iN (hrun _ _ (by rw [hv];exact hap)) (ad.rH hdd (.relabel (hR.wr trivial)) ((hc.relabel hR.ow hid).aL _) (.inr ⟨g,cap,cs,rfl,hR.relabel⟩))
   ·by_cases hroom:q.1.length+ys.2.length≤cap
    ·obtain ⟨b,n,c',hvy,hn,hcell⟩:=hsl hys0
     have hfit:q.1.length*i.size+news.length≤cs.size:=by
      rw [hf.len,hR.size,hisz,hszt,←Nat.add_mul];exact Nat.mul_le_mul_right _ hroom
     have hap:=run_append_room (P:=C.P) w ty o.type t i hu hi g q.1.length cap cs hR.hh b n c' news (by rw [hisz,hn];exact hf.len) hcell hf.VZ (by rw [hn];exact hroom) hfit
     have hw:((cs.toList.take (q.1.length*i.size)++news++cs.toList.drop (q.1.length*i.size+news.length)).toArray)=pY cs (q.1.length*sz) news:=by rw [hisz];rfl
     rw [hw,hn] at hap
     have hfit':q.1.length*sz+news.length≤cs.size:=by rw [←hisz];exact hfit
     have hsame:=fj.setRow hc hR.ow (pY cs (q.1.length*sz) news)
     have hc':=hc.GI hsame hid
     have hst:=bN.setRow hc hR.ow (hR.wr trivial) (pY cs (q.1.length*sz) news)
     have hfo:=hR.flat
     rw [hszt] at hfo
     have hff:=hfo.append hf
     have hR':dT C.P C.W (w.setRow g (pY cs (q.1.length*sz) news)) σ L True t (q.1++ys.2) g cap (pY cs (q.1.length*sz) news):=by
      refine ⟨hR.ow,hR.wr,setRow_heap w _ _ _ _ _ hR.hh,hR.pos,fun e he=>by rw [hszt];exact hff.nc e he,by simpa using hroom,hR.max,by rw [zd _ _ _ hfit',hR.size],hff.pure,hff.one,fun j e m c hj hm=>?_,hR.base⟩
      have hv':=hff.cell j e m c hj hm
      have hlt2:=yq (bq hj) (bq hm) (hff.nc e (List.mem_of_getElem? hj))
      rw [hszt,ze _ _ _ hfit']
      refine VR.same hsame ?_
      have hol:((cs.toList.drop 0).take (q.1.length*sz)).length=q.1.length*sz:=hfo.len
      rw [List.getElem?_append,hol] at hv'
      rw [List.length_append,Nat.add_mul] at hlt2
      by_cases hj2:j*sz+m<q.1.length*sz
      ·rw [if_pos hj2] at hv'
       rw [if_neg (by omega)]
       rw [List.getElem?_take,if_pos hj2,List.drop_zero] at hv'
       simpa [Array.getD_eq_getD_getElem?] using hv'
      ·rw [if_neg hj2] at hv'
       rw [if_pos ⟨by omega,by rw [hf.len];exact hlt2⟩]
       exact hv'
     refine .iN (hrun _ _ (by rw [hv,hvy,hn];exact hap)) (ad.rH hdd (hst.trans (.relabel (hR.wr trivial))) ((hc'.relabel hR.ow hid).aL _) (.inr ⟨g,cap,_,by rw [List.length_append],hR'.relabel⟩))
    ·have hfo:=hR.flat
     rw [hszt] at hfo
     refine hgrow (some ⟨g,0,none⟩) cap _ hv hR.ecap (run_firstCells_some w.drew i.size _ _ _ _ _ (by rw [hisz];exact hfo.len) (fun j u hj=>?_)) hfo (by omega)
     have:=zf hR.hh j u hj
     simpa using this
 ·cases he3
end
variable [aY]
section
variable {C:Cx}{st:St}{a:Act}{w:World}{σ:Sp}{o:Oper}{d:Option Nat}{R:Rec}{Ω:cm}{r:AV×St}
def Sp.ea(σ:Sp)(g:Nat):Sp:={σ with ow:=fun b=>if b=g then none else σ.ow b,I:=fun b=>σ.I b∨b=g}
theorem ad.LN{g:Nat}{L:cQ}(h:ad C st a w σ)(hg:σ.ow g=some L)(hi:Idle C st (some L)):ad C st a w (σ.ea g):=by
 refine h.GI (L:=some L) ⟨fun b l hb hl=>⟨rfl,?_⟩,fun _ _=>rfl,fun _ h=>.inl h,rfl,Nat.le_refl _,fun b l hb=>?_,fun b hb=>?_⟩ hi
 ·have:b≠g:=fun e=>hl (by subst e;rw [←hb,hg])
  simp only [Sp.ea,if_neg this,hb]
 ·simp only [Sp.ea] at hb
  split at hb
  ·cases hb
  ·exact h.own b l hb
 ·rcases hb with hb | rfl
  ·obtain ⟨h1,h2⟩:=h.ba b hb
   refine ⟨h1,?_⟩
   simp only [Sp.ea,h2];split<;>rfl
  ·exact ⟨h.own _ _ hg,by simp [Sp.ea]⟩
theorem bN.ea{g:Nat}(hW:C.W g):bN C w σ w (σ.ea g):=
 ⟨Nat.le_refl _,fun _ _ _=>rfl,fun _ h=>.inl h,fun _ _=>rfl,fun b hb=>hb.elim .inl fun e=>.inr (by rw [e];exact hW),fun _ _=>rfl,fun b _ hb=>if_neg (fun e=>hb (by rw [e];exact hW)),rfl,rfl⟩
theorem dT.ba{P:Program}{W:Nat→Prop}{L:cQ}{wp:Prop}{t:TypeId}{es:List AV}{g cap lo len:Nat}{cs:Array Value}{I:Nat→Prop}(hR:dT P W w σ L wp t es g cap cs)(hI:∀ b,σ.I b→I b)(hg:I g)
  (hle:lo+len≤es.length):VR w I σ.κ (.l t ((es.drop lo).take len)) (.slice (some ⟨g,lo*P.cellsOf t,none⟩) len (cap - lo)):=by
 have hm:∀ e∈(es.drop lo).take len,e∈es:=fun e he=>List.mem_of_mem_drop (List.mem_of_mem_take he)
 have hlen:((es.drop lo).take len).length=len:=by simp;omega
 have hec:=hR.ecap
 have:=VR.l (w:=w) (I:=I) (κ:=σ.κ) t ((es.drop lo).take len) g (lo*P.cellsOf t) (cap - lo) cs t (0,0) (P.cellsOf t) hg hR.hh (fun _=>⟨fun _=>⟨rfl,rfl⟩,fun h=>absurd hR.base (Nat.not_le_of_lt h)⟩) hR.pos (fun e he=>hR.nc e (hm e he))
  (by rw [hlen,hR.size,←Nat.add_mul];exact Nat.mul_le_mul_right _ (by omega)) (fun e he=>hR.pure e (hm e he)) (fun e he=>hR.one e (hm e he)) (by omega) (by have:=hR.max;omega) (fun j e m c hj hq=>by
   rw [List.getElem?_take] at hj
   split at hj
   ·rw [List.getElem?_drop] at hj
    have:=hR.cell _ e m c hj hq
    rw [Nat.add_mul] at this
    exact this.wi hI (fun _ _=>rfl) (iQ (hR.pure e (List.mem_of_getElem? hj)) c (List.mem_of_getElem? hq))
   ·cases hj)
 rwa [hlen] at this
theorem dT.PY{P:Program}{W:Nat→Prop}{L:cQ}{wp:Prop}{t:TypeId}{es:List AV}{g cap:Nat}{cs:Array Value}{I:Nat→Prop}(hR:dT P W w σ L wp t es g cap cs)(hI:∀ b,σ.I b→I b)(hg:I g) :
  VR w I σ.κ (.l t es) (.slice (some ⟨g,0,none⟩) es.length cap):=by
 have:=hR.ba hI hg (lo:=0) (len:=es.length) (by omega)
 simpa using this
theorem ad.freeze{L:cQ}{t:TypeId}{es:List AV}{v:Value}(h:ad C st a w σ)(ho:OwnAt C.P C.W w σ L True t es v)(hi:Idle C st (some L)) :
  ∃ σ',bN C w σ w σ'∧ad C st a w σ'∧VR w σ'.I σ'.κ (.l t es) v∧σ'.κ=σ.κ:=by
 rcases ho with ⟨rfl,rfl⟩ | ⟨g,cap,cs,rfl,hR⟩
 ·exact ⟨σ,.refl _ _ _,h,.lnil _ _ _,rfl⟩
 ·exact ⟨_,.ea (hR.wr trivial),h.LN hR.ow hi,hR.PY (I:=(σ.ea g).I) (fun _ h=>.inl h) (.inr rfl),rfl⟩
theorem ad.zg{st':St}(h:ad C st a w σ)(hfr:∀ d,aj st'.fr d= .u∨aj st'.fr d=aj st.fr d)(hbx:∀ k cs,st'.box C.E.dp k=some cs→st.box C.E.dp k=some cs)
  (hhp:∀ k cs,k.dp≠C.E.dp→st'.hp k=some cs→st.hp k=some cs):ad C st' a w σ:=by
 have h1:ad C {st with hp:=st'.hp} a w σ→ad C st' a w σ:=fun h1=>h1.forget hfr (fun k cs hk=>by
  by_cases hd:k.dp=C.E.dp
  ·have:=hbx k cs hk
   simpa [St.box,hd] using this
  ·simpa [St.box,hd] using hk) rfl
 refine h1 ⟨h.size,h.defers,fun d=>(h.fr d).AK fun pl _ ⟨r,hr⟩=>?_,fun k cs hk=>?_,fun k cs hk hc=>h.hpd k cs hk (hhp k cs hk hc),h.own,h.ba,h.new,h.lay⟩
 ·refine ⟨?_,rfl⟩
  rw [hr]
  cases pl with
  | s d'=>exact hr.symm
  | c k off=>
   by_cases hd:k.dp=C.E.dp
   ·simpa [St.rowAt,St.box,hd] using hr.symm
   ·simp only [St.rowAt,St.box,if_neg hd] at hr ⊢
    cases hc:st'.hp k with
    | none=>simp [hc] at hr
    | some cs=>
     rw [hhp k cs hd hc]
     simpa [hc] using hr.symm
 ·by_cases hd:k.dp=C.E.dp
  ·exact h.bx k cs (by simpa [St.box,hd] using hk)
  ·simp only [St.box,if_neg hd] at hk
   exact h.bx k cs (by simp only [St.box,if_neg hd];exact hhp k cs hd hk)
theorem zh(fr:List (Nat×AV))(ks:List Nat)(d:Nat):aj (js fr ks) d= .u∨aj (js fr ks) d=aj fr d:=by
 induction ks with
 | nil=>exact .inl rfl
 | cons k ks ih=>
  simp only [js,List.map_cons,aj]
  split
  ·rename_i e;subst e;exact .inr rfl
  ·exact ih
theorem bY{bx:List (Nat×List AV)}{ks:List Nat}{d:Nat}{cs:List AV}(h:aq (bT bx ks) d=some cs):aq bx d=some cs:=by
 induction ks with
 | nil=>simp [bT,aq] at h
 | cons k ks ih=>
  simp only [bT] at h
  split at h
  ·rename_i cs' hk
   simp only [aq] at h
   split at h
   ·rename_i e;subst e;rw [hk];exact h
   ·exact ih h
  ·exact ih h
theorem ad.aH(h:ad C st a w σ)(kf kb:List Nat):ad C (st.aH kf kb) a w σ:=
 h.zg (zh st.fr kf) (fun k cs hk=>by
  by_cases hd:k.dp=C.E.dp
  ·simp only [St.box,St.aH,hd,if_true] at hk ⊢
   exact bY hk
  ·simp only [St.box,St.aH,if_neg hd] at hk ⊢
   exact hk) (fun _ _ _ h=>h)
theorem ad.bR{d:Nat}{x:AV}(h:ad C st a w σ)(hx:SR C w σ st a d x (a.tmps.getD d undef))(hb:∀ t es,x= .o t es→∀ d',(aj st.fr d').fe (.s d)=false)(hd:d<C.nt):ad C (st.bR d x) a w σ:=by
 have:=h.put hd hx hb
 have e:a.put (some d) (a.tmps.getD d undef)=a:=by
  have hd':d<a.tmps.size:=h.size▸hd
  simp only [Act.put]
  have:a.tmps.setIfInBounds d (a.tmps.getD d undef)=a.tmps:=by
   apply Array.ext_getElem?
   intro i
   rw [Array.getElem?_setIfInBounds]
   split
   ·rename_i e;subst e;simp [hd']
   ·rfl
  rw [this]
 rwa [e] at this
theorem Kr{d:Nat}{x:AV}{v:Value}(hd:C.nt≤d)(h:ad C st a w σ)(hx:aj st.fr d=x)(hv:a.tmps.getD d undef=v):v=undef:=by
 rw [←hv]
 have:¬d<a.tmps.size:=by rw [h.size];omega
 simp [this]
theorem RR{d:Nat}{t:TypeId}{es:List AV}(h:ad C st a w σ)(hx:aj st.fr d= .o t es):d<C.nt:=by
 rcases Nat.lt_or_ge d C.nt with hd | hd
 ·exact hd
 ·have:=h.fr d
  rw [hx,Kr hd h rfl rfl] at this
  rcases this with ⟨_,h2⟩ | ⟨_,_,_,h2,_⟩<;>cases h2
theorem Iz{d:Nat}{x:AV}{v:Value}(h:ad C st a w σ)(hv:a.tmps.getD d undef=v)(hne:v≠undef):d<C.nt:=by
 rcases Nat.lt_or_ge d C.nt with hd | hd
 ·exact hd
 ·exact absurd (by rw [←hv];exact Kr (x:=aj st.fr d) hd h rfl rfl) hne
theorem IA{k:Key}{off:Nat}{c:AV}{v:Value}(hc:c.pure=true)(h:CR C w σ k off c v):VR w σ.I σ.κ c v:=by
 cases c<;>first | exact h | cases hc
theorem ad.AQ{k:Key}{cs:List AV}{off:Nat}{x:AV}(h:ad C st a w σ)(hb:st.box C.E.dp k=some cs)(hno:∀ t es,cs[off]? ≠some (.o t es))(hx:x.one=true)
  (hdeep:k.dp≠C.E.dp→x.deep k.dp=true) (hbor:∀ d,(aj st.fr d).fe (.c k off)=false)
  (hv:∀ vs T,w.heap[σ.κ k]? =some (.cells vs T (0,0))→CR C w σ k off x (vs.getD off undef))
  (hzt:∀ t kk u,x= .bp t kk u→∀ vs T,w.heap[σ.κ k]? =some (.cells vs T (0,0))→t=T∧vs.size=cs.length:=by intro _ _ _ e;cases e):ad C (st.aC C.E.dp k (cs.set off x)) a w σ:=by
 have hbox:=fun k'=>fX (cs':=cs.set off x) hb k'
 obtain ⟨vs,T,hB⟩:=h.bx k cs hb
 refine ⟨h.size,h.defers,fun d=>?_,fun k' cs' hk=>?_,fun k' cs' hk hc'=>?_,h.own,h.ba,h.new,h.lay⟩
 ·rw [mK]
  refine (h.fr d).AK fun pl hpl ⟨r,hr⟩=>⟨?_,rfl⟩
  rw [hr]
  cases pl with
  | s d'=>rw [pF] at hr;exact hr.symm
  | c k' off'=>
   simp only [St.rowAt,hbox] at hr ⊢
   by_cases hk:k'=k
   ·subst hk
    by_cases ho:off=off'
    ·subst ho
     rw [hbor d] at hpl;cases hpl
    ·simp only [if_true,List.getElem?_set,if_neg ho] at hr
     simp only [hb];exact hr.symm
   ·simp only [if_neg hk] at hr
    exact hr.symm
 ·rw [hbox] at hk
  by_cases hkk:k'=k
  ·subst hkk
   simp only [if_true] at hk
   obtain rfl:=Option.some.inj hk
   refine ⟨vs,T,hB.hh,by simpa using hB.size,hB.ow,hB.wr,fun c hm=>?_,fun i c hi=>?_,fun t kk u ht=>(List.mem_or_eq_of_mem_set ht).elim (fun hm=>by simpa using hB.ty t kk u hm) (fun e=>by simpa using hzt t kk u e.symm vs T hB.hh),hB.kb⟩
   ·rcases List.mem_or_eq_of_mem_set hm with hm | rfl
    ·exact hB.one c hm
    ·exact .inl hx
   ·rw [List.getElem?_set] at hi
    split at hi
    ·rename_i e
     split at hi
     ·obtain rfl:=Option.some.inj hi
      subst e
      exact hv vs T hB.hh
     ·cases hi
    ·exact hB.cell i c hi
  ·simp only [if_neg hkk] at hk
   exact h.bx k' cs' hk
 ·by_cases hkd:k.dp=C.E.dp
  ·simp only [St.aC,hkd,if_true] at hc'
   exact h.hpd k' cs' hk hc'
  ·simp only [St.aC,if_neg hkd,ab] at hc'
   split at hc'
   ·rename_i hkk
    subst hkk
    obtain rfl:=Option.some.inj hc'
    have hold:=h.hpd k' cs hk (by simpa [St.box,hkd] using hb)
    refine ⟨hold.1,fun c hm=>?_⟩
    rcases List.mem_or_eq_of_mem_set hm with hm | rfl
    ·exact hold.2 c hm
    ·exact hdeep hkd
   ·exact h.hpd k' cs' hk hc'
theorem set_set(cs:List AV)(off:Nat)(x y:AV):(cs.set off x).set off y=cs.set off y:=by
 apply List.ext_getElem?
 intro i
 simp only [List.getElem?_set,List.length_set]
 split<;>rfl
theorem FV(bx:List (Nat×List AV))(d:Nat)(x y:List AV):kK (kK bx d x) d y=kK bx d y:=by
 induction bx with
 | nil=>rfl
 | cons z bx ih=>
  obtain ⟨k,c⟩:=z
  simp only [kK]
  split
  ·rename_i e;subst e;simp [kK]
  ·rename_i hne;simp only [kK,if_neg hne,ih]
theorem Gq(dp:Nat)(st:St)(k:Key)(x y:List AV):(st.aC dp k x).aC dp k y=st.aC dp k y:=by
 unfold St.aC
 split
 ·simp only [FV]
 ·congr 1
  funext k'
  simp only [ab]
  split<;>rfl
theorem yr{k:Key}{off:Nat}(h:k.dp=C.E.dp):(Pl.c k off).fK C.E=true:=by simp [Pl.fK,h]
def cQ.dpt:cQ→Nat
 | .box k=>k.dp
 | .rowS dp _=>dp
 | .rowC k _=>k.dp
 | .grp dp _=>dp
 | .mark dp=>dp
theorem ad.LO{d:Nat}{cs:List AV}{vs:Array Value}{T:TypeId}{g:Nat}{ow':Nat→Option cQ}(h:ad C st a w σ)(how:∀ b l,σ.ow b=some l→l.dpt≤C.E.dp→ow' b=some l)(hown:∀ b l,ow' b=some l→b<w.heap.size)(himm:∀ b,σ.I b→ow' b=none)
  (hh:w.heap[g]? =some (.cells vs T (0,0))) (hkb:(1000000≤d→T=(d - 1000000) / 1000)∧aY.n0≤g) (hsz:cs.length≤vs.size) (hg:ow' g=some (.box ⟨C.E.dp,d⟩)) (hW:C.W g) (h1:∀ c∈cs,c.one=true∨c= .u)
  (hcell:∀ (off:Nat)(c:AV),cs[off]? =some c→match c with
   | .o t es=>OwnAt C.P C.W w ⟨σ.κ,ow',σ.I⟩ (.rowC ⟨C.E.dp,d⟩ off) True t es (vs.getD off undef)
   | c=>c.pure=true∧VR w σ.I σ.κ c (vs.getD off undef))
  (hfr:∀ d',(aj st.fr d').bb ⟨C.E.dp,d⟩=true) (hbx:∀ d' cs',aq st.bx d'=some cs'→∀ c∈cs',c.bb ⟨C.E.dp,d⟩=true) :
  ad C {st with bx:=(d,cs)::st.bx} a w ⟨fun k=>if k=⟨C.E.dp,d⟩ then g else σ.κ k,ow',σ.I⟩:=by
 have hhp:=EZ h d
 have hkap:∀ k,k≠⟨C.E.dp,d⟩→(if k=⟨C.E.dp,d⟩ then g else σ.κ k)=σ.κ k:=fun k hk=>if_neg hk
 have hnk:∀ (x:AV),x.bb ⟨C.E.dp,d⟩=true→∀ k,x.bb k=false→k≠⟨C.E.dp,d⟩:=by
  intro x hx k hk e
  subst e
  rw [hx] at hk;cases hk
 have hrow:∀ pl r,({st with bx:=(d,cs)::st.bx} : St).rowAt C.E.dp pl=some r→(∀ off,pl≠.c ⟨C.E.dp,d⟩ off)→st.rowAt C.E.dp pl=some r:=by
  intro pl r hr hne
  cases pl with
  | s d'=>exact hr
  | c k off=>
   simp only [St.rowAt,St.box] at hr ⊢
   by_cases hk:k.dp=C.E.dp
   ·have hkd:d≠k.d:=fun e=>hne off (by cases k;simp at hk e;subst hk;subst e;rfl)
    simp only [hk,if_true,aq,if_neg hkd] at hr ⊢
    exact hr
   ·simp only [if_neg hk] at hr ⊢
    exact hr
 have hmk:Marks C a.defers w ⟨fun k=>if k=⟨C.E.dp,d⟩ then g else σ.κ k,ow',σ.I⟩:=by
  obtain ⟨Ds,h0,h1,h2⟩:=h.defers
  exact ⟨Ds,h0,h1,fun D hD=>⟨how D _ (h2 D hD).1 (Nat.le_refl _),(h2 D hD).2⟩⟩
 refine ⟨h.size,hmk,fun d'=>?_,fun k cs' hk=>?_,h.hpd,hown,fun b hb=>⟨(h.ba b hb).1,himm b hb⟩,h.new,h.lay⟩
 ·have hx:=h.fr d'
  have hn:=hfr d'
  have hpv:∀ pl,(∀ off,pl≠.c ⟨C.E.dp,d⟩ off)→dQ w ⟨fun k=>if k=⟨C.E.dp,d⟩ then g else σ.κ k,ow',σ.I⟩ a pl=dQ w σ a pl:=by
   intro pl hne
   cases pl with
   | s d''=>rfl
   | c k off=>
    have:k≠⟨C.E.dp,d⟩:=fun e=>hne off (by rw [e])
    simp only [dQ,if_neg this]
  generalize aj st.fr d'=x at hx hn ⊢
  show SR _ _ _ _ _ _ x _
  cases x with
  | o t es=>exact OwnAt.aH (C:=C) hx (fun g hg=>⟨rfl,how _ _ hg (Nat.le_refl _)⟩) (fun _ h=>h) (fun _ _=>rfl)
  | r pl=>
   have hne:∀ off,pl≠.c ⟨C.E.dp,d⟩ off:=fun off e=>by subst e;simp [AV.bb] at hn
   intro hsm
   obtain ⟨r,hr⟩:=Option.isSome_iff_exists.1 hsm
   rw [hpv pl hne]
   exact hx (by rw [hrow pl r hr hne];rfl)
  | v pl lo len=>
   have hne:∀ off,pl≠.c ⟨C.E.dp,d⟩ off:=fun off e=>by subst e;simp [AV.bb] at hn
   intro t es ht hll
   rw [hpv pl hne]
   exact hx t es (hrow pl _ ht hne) hll
  | q pl i sz off=>
   have hne:∀ off,pl≠.c ⟨C.E.dp,d⟩ off:=fun off e=>by subst e;simp [AV.bb] at hn
   intro t es ht hll
   rw [hpv pl hne]
   exact hx t es (hrow pl _ ht hne) hll
  | w g t x=>exact nT.aH hx (fun b hb=>⟨rfl,how _ _ hb (Nat.le_refl _)⟩) fun _ h=>h
  | ag cs' rs=>exact uv.to hx (fun c hc v hv=>hv.mono (fun _ h=>h) (fun _ _=>rfl) fun k hk=>hkap k (hnk c (ja (by simpa [AV.bb] using hn) c hc) k hk)) (fun _ _ hr=>⟨hr,rfl⟩)
  | _=>exact VR.mono hx (fun _ h=>h) (fun _ _=>rfl) fun k hk=>hkap k (hnk _ hn k hk)
 ·by_cases hK:k=⟨C.E.dp,d⟩
  ·subst hK
   simp only [St.box,if_true,aq] at hk
   obtain rfl:=Option.some.inj hk
   refine ⟨vs,T,by simp only [if_true];exact hh,hsz,by simp only [if_true];exact hg,fun _=>by simp only [if_true];exact hW,h1,fun off c hc=>?_,fun t _ _ ht=>(by obtain ⟨m,hm⟩:=List.mem_iff_getElem?.1 ht;cases (hcell m _ hm).1),by simp only [if_true];exact hkb⟩
   have hv:=hcell off c hc
   by_cases ho:∃ t es,c= .o t es
   ·obtain ⟨t,es,rfl⟩:=ho
    rcases hv with hv | ⟨g',cap,cs',hv,hr⟩
    ·exact .inl hv
    ·exact .inr ⟨g',cap,cs',hv,⟨hr.ow,fun _=>hr.wr trivial,hr.hh,hr.pos,hr.nc,hr.ecap,hr.max,hr.size,hr.pure,hr.one,fun j e m c he hc=>(hr.cell j e m c he hc).wi (fun _ h=>h) (fun _ _=>rfl) (iQ (hr.pure e (List.mem_of_getElem? he)) c (List.mem_of_getElem? hc)),hr.base⟩⟩
   ·split at hv
    ·exact absurd ⟨_,_,rfl⟩ ho
    ·exact Nz (hv.2.wi (fun _ h=>h) (fun _ _=>rfl) hv.1)
  ·have hk':st.box C.E.dp k=some cs':=by
    simp only [St.box] at hk ⊢
    by_cases hkd:k.dp=C.E.dp
    ·have hne:d≠k.d:=fun e=>hK (by cases k;simp at hkd e;subst hkd;subst e;rfl)
     simpa only [hkd,if_true,aq,if_neg hne] using hk
    ·simpa only [if_neg hkd] using hk
   obtain ⟨vs',T',hB⟩:=h.bx k cs' hk'
   have hkdp:k.dp≤C.E.dp:=by
    by_cases hkd:k.dp=C.E.dp
    ·omega
    ·simp only [St.box,if_neg hkd] at hk'
     exact Nat.le_of_lt (h.hpd k cs' hkd hk').1
   have hmem:∀ c∈cs',c.bb ⟨C.E.dp,d⟩=true:=by
    by_cases hkd:k.dp=C.E.dp
    ·simp only [St.box,hkd,if_true] at hk'
     exact hbx _ _ hk'
    ·simp only [St.box,if_neg hkd] at hk'
     exact hhp k cs' hkd hk'
   refine ⟨vs',T',by simp only [if_neg hK];exact hB.hh,hB.size,by simp only [if_neg hK];exact how _ _ hB.ow hkdp,fun hw=>by simp only [if_neg hK];exact hB.wr hw,hB.one,fun off c hc=>?_,hB.ty,by simp only [if_neg hK];exact hB.kb⟩
   exact CR.aH (C:=C) (hB.cell off c hc) (fun g hg=>⟨rfl,how _ _ hg hkdp⟩) (fun _ h=>h) (fun _ _=>rfl) (fun k hk=>hkap k (hnk c (hmem c (List.mem_of_getElem? hc)) k hk)) fun b g hg=>⟨rfl,how _ _ hg (Nat.le_refl _)⟩
theorem flat_get(sz:Nat):∀ {es:List AV}{i:Nat}{c:AV},(∀ e∈es,e.nc=sz)→(es.flatMap AV.cl)[i]? =some c→∃ (j m:Nat)(e:AV),es[j]? =some e∧e.cl[m]? =some c∧i=j*sz+m
 | [],i,c,_,h=>by simp at h
 | x::es,i,c,hn,h=>by
  have hx:x.cl.length=sz:=hn x (by simp)
  rw [List.flatMap_cons] at h
  rcases Nat.lt_or_ge i sz with hi | hi
  ·rw [List.getElem?_append_left (by omega)] at h
   exact ⟨0,i,x,rfl,h,by omega⟩
  ·rw [List.getElem?_append_right (by omega)] at h
   obtain ⟨j,m,e,h1,h2,h3⟩:=flat_get sz (fun e he=>hn e (by simp [he])) h
   exact ⟨j+1,m,e,by simpa using h1,h2,by rw [Nat.add_mul];omega⟩
theorem IB(sz:Nat):∀ {es:List AV},(∀ e∈es,e.nc=sz)→(es.flatMap AV.cl).length=es.length*sz
 | [],_=>by simp
 | x::es,hn=>by
  have hx:x.cl.length=sz:=hn x (by simp)
  rw [List.flatMap_cons,List.length_append,IB sz (fun e he=>hn e (by simp [he])),hx,List.length_cons,Nat.add_mul]
  omega
theorem zi(sz:Nat):∀ (n:Nat)(cs:List AV),(chunks sz n cs).length=n
 | 0,_=>rfl
 | n+1,cs=>by simp [chunks,zi sz n]
theorem jG(sz:Nat)(hsz:0<sz):∀ {n:Nat}{cs:List AV}{j:Nat}{e:AV},(∀ c∈cs,c.one=true)→n*sz≤cs.length→(chunks sz n cs)[j]? =some e→e.cl=(cs.drop (j*sz)).take sz∧(j+1)*sz≤cs.length∧(AV.aK cs=true→e.pure=true)
 | 0,cs,j,e,_,_,h=>by simp [chunks] at h
 | n+1,cs,0,e,h1,hl,h=>by
  simp only [chunks,List.getElem?_cons_zero,Option.some.injEq] at h
  have hl':sz≤cs.length:=by rw [Nat.add_mul] at hl;omega
  refine ⟨?_,by omega,fun hp=>?_⟩
  ·rw [Nat.zero_mul,List.drop_zero,←h]
   split
   ·rename_i e1
    subst e1
    cases cs with
    | nil=>simp at hl'
    | cons c cs=>
     have hc:=h1 c (by simp)
     cases c<;>first | rfl | (simp [AV.one] at hc)
   ·rfl
  ·rw [←h]
   split
   ·rename_i e1
    subst e1
    cases cs with
    | nil=>simp at hl'
    | cons c cs=>exact cT hp c (by simp)
   ·exact ib fun c hc=>cT hp c (List.mem_of_mem_take hc)
 | n+1,cs,j+1,e,h1,hl,h=>by
  simp only [chunks,List.getElem?_cons_succ] at h
  have hl':n*sz≤(cs.drop sz).length:=by rw [List.length_drop];rw [Nat.add_mul] at hl;omega
  obtain ⟨h2,h3,h4⟩:=jG sz hsz (fun c hc=>h1 c (List.mem_of_mem_drop hc)) hl' h
  rw [List.length_drop] at h3
  have hs:sz≤cs.length:=by rw [Nat.add_mul] at hl;omega
  refine ⟨by rw [h2,List.drop_drop];congr 2;rw [Nat.add_mul];omega,by rw [Nat.add_mul];omega,fun hp=>h4 (ib fun c hc=>cT hp c (List.mem_of_mem_drop hc))⟩
theorem ad.iq{k:Key}{off nd sz:Nat}{cs es:List AV}{t:TypeId}(h:ad C st a w σ)(hkd:k.dp=C.E.dp)(hb:aq st.bx k.d=some cs)(hz:cs[off]? =some (.o t es))(hne:es≠[])
  (hnc:∀ e∈es,e.nc=sz) (hno:tc C.E.dp (st.aC C.E.dp k (cs.set off .u)) t nd=true) :
  ∃ σ',bN C w σ w σ'∧ad C ((({(st.aC C.E.dp k (cs.set off .u)) with bx:=(nd,es.flatMap AV.cl)::(st.aC C.E.dp k (cs.set off .u)).bx} : St).aL (.c k off)).aC C.E.dp k ((cs.set off .u).set off (.sp ⟨C.E.dp,nd⟩ 0 es.length sz))) a w σ':=by
 have hb':st.box C.E.dp k=some cs:=by simp [St.box,hkd,hb]
 obtain ⟨vs,T,hB⟩:=h.bx k cs hb'
 have ho:OwnAt C.P C.W w σ (.rowC k off) ((Pl.c k off).fK C.E=true) t es (vs.getD off undef):=hB.cell _ _ hz
 rcases ho with ⟨rfl,_⟩ | ⟨g,cap,cs',hv,hR⟩
 ·exact absurd rfl hne
 obtain ⟨h1,hi⟩:=h.AP (pl:=.c k off) (st':=st.aC C.E.dp k (cs.set off .u)) (by simp [St.putAt,hb'])
 have h2:=h1.relabel (M:=.box ⟨C.E.dp,nd⟩) hR.ow hi
 simp only [tc,Bool.and_eq_true,decide_eq_true_eq] at hno
 have hsz:sz=C.P.cellsOf t:=by
  cases es with
  | nil=>exact absurd rfl hne
  | cons e es=>exact (hnc e (by simp)).symm.trans (hR.nc e (by simp))
 have hWg:C.W g:=hR.wr (yr hkd)
 have h3:=h2.LO (d:=nd) (cs:=es.flatMap AV.cl) (vs:=cs') (T:=t) (g:=g) (ow':=fun b=>if b=g then some (.box ⟨C.E.dp,nd⟩) else σ.ow b) (fun b l hb _=>hb) (fun b l hb=>h2.own b l hb) (fun b hb=>(h2.ba b hb).2)
  hR.hh ⟨fun _=>hno.1.1.2.symm,hR.base⟩ (by rw [IB sz hnc,hR.size,hsz];exact Nat.mul_le_mul_right _ hR.ecap) (by simp) hWg (fun c hc=>by
   obtain ⟨e,he,hce⟩:=List.mem_flatMap.1 hc
   exact .inl (hR.one e he c hce)) (fun i c hc=>by
   obtain ⟨j,m,e,he,hm,rfl⟩:=flat_get sz hnc hc
   have hp:=iQ (hR.pure e (List.mem_of_getElem? he)) c (List.mem_of_getElem? hm)
   have hcell:=hR.cell j e m c he hm
   rw [←hsz] at hcell
   cases c with
   | o t' es'=>cases hp
   | _=>exact ⟨hp,hcell⟩)
  (lR rfl _ hno.1.2) (fun d' cs2 hb2 c hc=>ja (lS _ hno.2 d' cs2 hb2) c hc)
 have hnd:nd≠k.d:=by
  intro e
  have h4:aq (st.aC C.E.dp k (cs.set off .u)).bx nd=none:=by simpa using hno.1.1.1.1
  have h5:=fX (cs':=cs.set off .u) hb' k
  rw [if_pos rfl] at h5
  simp only [St.box,hkd,if_true] at h5
  rw [e] at h4
  rw [h5] at h4;cases h4
 have hkk:k≠⟨C.E.dp,nd⟩:=fun e=>hnd (by rw [e])
 have hb4:(({(st.aC C.E.dp k (cs.set off .u)) with bx:=(nd,es.flatMap AV.cl)::(st.aC C.E.dp k (cs.set off .u)).bx} : St).aL (.c k off)).box C.E.dp k=some (cs.set off .u):=by
  rw [AJ]
  have h5:=fX (cs':=cs.set off .u) hb' k
  rw [if_pos rfl] at h5
  simp only [St.box,hkd,if_true,aq,if_neg hnd] at h5 ⊢
  exact h5
 have h5:=(h3.aL (.c k off)).AQ (x:=.sp ⟨C.E.dp,nd⟩ 0 es.length sz) (off:=off) hb4 (fun t' es' e=>by rw [List.getElem?_set] at e;simp [bq hz] at e) rfl (fun hne=>absurd hkd hne) (fun d'=>iM _ _ _) (fun vs' T' hh=>by
  simp only [if_neg hkk] at hh
  have hh:w.heap[σ.κ k]? =some (.cells vs' T' (0,0)):=hh
  rw [hB.hh] at hh
  simp only [Option.some.injEq,Obj.cells.injEq] at hh
  rw [←hh.1,hv]
  have:=VR.sp (w:=w) (I:=σ.I) (κ:=fun k=>if k=⟨C.E.dp,nd⟩ then g else σ.κ k) ⟨C.E.dp,nd⟩ 0 es.length sz cap hR.ecap hR.max
  simp only [if_true] at this
  exact this)
 refine ⟨⟨fun k=>if k=⟨C.E.dp,nd⟩ then g else σ.κ k,fun b=>if b=g then some (cQ.box ⟨C.E.dp,nd⟩) else σ.ow b,σ.I⟩,⟨Nat.le_refl _,fun _ _ _=>rfl,fun _ h=>h,fun _ _=>rfl,fun _ h=>.inl h,fun k' hk'=>?_,fun b _ hW=>?_,rfl,rfl⟩,h5⟩
 ·have:k'≠⟨C.E.dp,nd⟩:=fun e=>by rw [e] at hk';exact Nat.lt_irrefl _ hk'
  simp only [if_neg this]
 ·have:b≠g:=fun e=>hW (by rw [e];exact hWg)
  simp only [if_neg this]
theorem yt{bx:List (Nat×List AV)}{d e:Nat}(h:e≠d):aq (bx.filter fun y=>y.1 !=d) e=aq bx e:=by
 induction bx with
 | nil=>rfl
 | cons z bx ih=>
  simp only [List.filter_cons]
  split
  ·simp only [aq]
   split
   ·rfl
   ·exact ih
  ·rename_i hz
   have hz':z.1=d:=by simpa using hz
   simp only [aq]
   rw [if_neg (fun e2=>h (by rw [←e2,hz']))]
   exact ih
theorem yu{bx:List (Nat×List AV)}{d:Nat} : aq (bx.filter fun y=>y.1 !=d) d=none:=by
 induction bx with
 | nil=>rfl
 | cons z bx ih=>
  simp only [List.filter_cons]
  split
  ·rename_i hz
   have hz':z.1≠d:=by simpa using hz
   simp only [aq,if_neg hz',ih]
  ·exact ih
theorem ad.ZS{k k2:Key}{off n sz:Nat}{cs cs2:List AV}(h:ad C st a w σ)(hkd:k.dp=C.E.dp)(hb:aq st.bx k.d=some cs)(hz:cs[off]? =some (.sp k2 0 n sz))(hk2:k2.dp=C.E.dp)(hne:k2≠k)
  (hb2:aq st.bx k2.d=some cs2) (hp:AV.aK cs2=true) (hsz:0<sz) (hle:n*sz≤cs2.length) :
  ∃ σ',bN C w σ w σ'∧ad C ((({st with bx:=st.bx.filter fun y=>y.1 !=k2.d} : St).aL (.c k off)).aC C.E.dp k (cs.set off (.l (od k2.d) (chunks sz n cs2)))) a w σ':=by
 have hb':st.box C.E.dp k=some cs:=by simp [St.box,hkd,hb]
 have hb2':st.box C.E.dp k2=some cs2:=by simp [St.box,hk2,hb2]
 obtain ⟨vs,T,hB⟩:=h.bx k cs hb'
 obtain ⟨vs2,T2,hB2⟩:=h.bx k2 cs2 hb2'
 have hdd:k.d≠k2.d:=fun e=>hne (by cases k;cases k2;simp at hkd hk2 e;rw [hkd,hk2,e])
 have hpl:=cT hp
 have hone:∀ c∈cs2,c.one=true:=fun c hc=>(hB2.one c hc).resolve_right fun e=>by have:=hpl c hc;rw [e] at this;cases this
 have h1:ad C {st with bx:=st.bx.filter fun y=>y.1 !=k2.d} a w σ:=by
  refine h.zg (fun _=>.inr rfl) (fun k' cs' hk=>?_) (fun _ _ _ h=>h)
  by_cases hd:k'.dp=C.E.dp
  ·simp only [St.box,hd,if_true] at hk ⊢
   by_cases he:k'.d=k2.d
   ·rw [he,yu] at hk;cases hk
   ·rw [yt he] at hk;exact hk
  ·simp only [St.box,if_neg hd] at hk ⊢;exact hk
 have hgone:({st with bx:=st.bx.filter fun y=>y.1 !=k2.d} : St).box C.E.dp k2=none:=by
  simp only [St.box,hk2,if_true];exact yu
 have hi:Idle C {st with bx:=st.bx.filter fun y=>y.1 !=k2.d} (some (.box k2)):=
  ⟨fun _ _ _ _=>by simp,fun k' cs' hk e=>(by simp only [Option.some.injEq,cQ.box.injEq] at e;subst e;rw [hgone] at hk;cases hk),fun _ _ _ _ _ _ _=>by simp,fun _=>by simp,by simp⟩
 have h2:=h1.LN hB2.ow hi
 have hW:C.W (σ.κ k2):=hB2.wr (yr hk2)
 have hb4:(({st with bx:=st.bx.filter fun y=>y.1 !=k2.d} : St).aL (.c k off)).box C.E.dp k=some cs:=by
  rw [AJ]
  simp only [St.box,hkd,if_true]
  rw [yt hdd];exact hb
 refine ⟨_,.ea hW,(h2.aL (.c k off)).AQ (x:=.l (od k2.d) (chunks sz n cs2)) (off:=off) hb4 (fun t' es' e=>by rw [hz] at e;cases e) rfl (fun hne=>absurd hkd hne) (fun d'=>iM _ _ _) (fun vs' T' hh=>?_)⟩
 have hh':w.heap[σ.κ k]? =some (.cells vs' T' (0,0)):=hh
 rw [hB.hh] at hh'
 simp only [Option.some.injEq,Obj.cells.injEq] at hh'
 rw [←hh'.1]
 have hcell:VR w σ.I σ.κ (.sp k2 0 n sz) (vs.getD off undef):=hB.cell off _ hz
 generalize vs.getD off undef=v at hcell
 cases hcell with
 | sp _ _ _ _ cap hc1 hc2=>
  show VR w _ _ _ _
  have hlen:=zi sz n cs2
  have hT:od k2.d≠0→(aY.n0≤σ.κ k2→T2=od k2.d∧((0,0):Nat×Nat)=(0,0))∧(σ.κ k2<aY.n0→aY.tg (od k2.d)=true):=by
   intro h
   unfold od at h ⊢
   split at h
   ·rename_i hd
    rw [if_pos hd]
    exact ⟨fun _=>⟨hB2.kb.1 hd,rfl⟩,fun hlt=>absurd hB2.kb.2 (by omega)⟩
   ·exact absurd rfl h
  have:=VR.l (w:=w) (I:=(σ.ea (σ.κ k2)).I) (κ:=σ.κ) (od k2.d) (chunks sz n cs2) (σ.κ k2) 0 cap vs2 T2 (0,0) sz (.inr rfl) hB2.hh hT hsz (fun e he=>?_) ?_ (fun e he=>?_) (fun e he c hc=>?_) (by omega) hc2 (fun j e m c he hc=>?_)
  ·rw [hlen] at this;exact this
  ·obtain ⟨j,hj⟩:=List.mem_iff_getElem?.1 he
   obtain ⟨h3,h4,_⟩:=jG sz hsz hone hle hj
   unfold AV.nc
   rw [h3,List.length_take,List.length_drop]
   rw [Nat.add_mul] at h4
   omega
  ·rw [hlen];have:=hB2.size;omega
  ·obtain ⟨j,hj⟩:=List.mem_iff_getElem?.1 he
   exact (jG sz hsz hone hle hj).2.2 hp
  ·obtain ⟨j,hj⟩:=List.mem_iff_getElem?.1 he
   obtain ⟨h3,_,_⟩:=jG sz hsz hone hle hj
   rw [h3] at hc
   exact hone c (List.mem_of_mem_drop (List.mem_of_mem_take hc))
  ·obtain ⟨h3,_,_⟩:=jG sz hsz hone hle he
   rw [h3,List.getElem?_take] at hc
   split at hc
   ·rw [List.getElem?_drop] at hc
    have hcm:=List.mem_of_getElem? hc
    rw [Nat.zero_add]
    exact (IA (hpl c hcm) (hB2.cell _ c hc)).wi (fun _ h=>.inl h) (fun _ _=>rfl) (hpl c hcm)
   ·cases hc
theorem ad.V1{p:uy}{st':St}(h:ad C st a w σ)(he:eH C.E st p=some st'):∃ σ',bN C w σ w σ'∧ad C st' a w σ':=by
 cases p with
 | own d t=>
  simp only [eH] at he
  split at he
  ·rename_i hx
   obtain rfl:=Option.some.inj he
   have hs:=h.fr d
   rw [hx] at hs
   have hv:=VR.Br hs
   refine ⟨σ,.refl _ _ _,(h.aL (.s d)).bR (.inl ⟨rfl,hv⟩) (fun _ _ _ d'=>iM _ _ _) (Iz (x:=.n) h hv (by simp [undef]))⟩
  ·obtain rfl:=Option.some.inj he
   exact ⟨σ,.refl _ _ _,h⟩
  ·cases he
 | fz d=>
  simp only [eH] at he
  split at he
  ·rename_i t es hx
   obtain rfl:=Option.some.inj he
   have hs:=h.fr d
   rw [hx] at hs
   obtain ⟨σ',hst,hc,hv,_⟩:=(h.Iw d).freeze (L:=.rowS C.E.dp d) hs (tW fun t es=>by rw [jO,if_pos rfl];simp)
   have:=hc.bR (d:=d) (x:=.l t es) hv (fun _ _ e=>by cases e) (RR h hx)
   refine ⟨σ',hst,this.zg (fun d'=>.inr ?_) (fun _ _ h=>h) (fun _ _ _ h=>h)⟩
   simp only [jO];split<;>rfl
  ·cases he
 | ownC d off t=>
  simp only [eH] at he
  split at he
  ·rename_i k o hx
   split at he
   ·rename_i hm
    obtain ⟨cs,hb,he1⟩:=Option.bind_eq_some_iff.1 he
    clear he
    split at he1
    ·rename_i hcn
     obtain rfl:=Option.some.inj he1
     refine ⟨σ,.refl _ _ _,(h.aL (.c k (o+off))).AQ hb (fun _ _ e=>by rw [hcn] at e;cases e) rfl (fun _=>rfl) (fun d'=>iM _ _ _) fun vs T hh=>?_⟩
     obtain ⟨vs',T',hB⟩:=h.bx k cs hb
     have:=hB.cell _ _ hcn
     rw [hB.hh] at hh
     simp only [Option.some.injEq,Obj.cells.injEq] at hh
     rw [←hh.1]
     exact .inl ⟨rfl,VR.Br this⟩
    ·obtain rfl:=Option.some.inj he1
     exact ⟨σ,.refl _ _ _,h⟩
    ·cases he1
   ·cases he
  ·cases he
 | fzC d off=>
  simp only [eH] at he
  split at he
  ·rename_i k o hx
   split at he
   ·rename_i hm
    obtain ⟨cs,hb,he1⟩:=Option.bind_eq_some_iff.1 he
    clear he
    split at he1
    ·rename_i t es hco
     obtain rfl:=Option.some.inj he1
     obtain ⟨vs,T,hB⟩:=h.bx k cs hb
     have ho:OwnAt C.P C.W w σ (.rowC k (o+off)) ((Pl.c k (o+off)).fK C.E=true) t es (vs.getD (o+off) undef):=hB.cell _ _ hco
     obtain ⟨h1,hi⟩:=h.AP (pl:=.c k (o+off)) (st':=st.aC C.E.dp k (cs.set (o+off) .u)) (by simp [St.putAt,hb])
     obtain ⟨σ',hst,hc,hv,hkap⟩:=h1.freeze (ho.AL fun _=>hm) hi
     have hbx1:(st.aC C.E.dp k (cs.set (o+off) .u)).box C.E.dp k=some (cs.set (o+off) .u):=by rw [fX hb,if_pos rfl]
     have hcell:(cs.set (o+off) AV.u)[o+off]? =some .u:=by
      rw [List.getElem?_set];simp [bq hco]
     have h2:=(hc.aL (.c k (o+off))).AQ (x:=.l t es) (off:=o+off) (cs:=cs.set (o+off) .u) hbx1 (fun _ _ e=>by rw [hcell] at e;cases e) rfl (fun _=>rfl) (fun d'=>iM _ _ _) (fun vs' T' hh=>by
      rw [hkap,hB.hh] at hh
      simp only [Option.some.injEq,Obj.cells.injEq] at hh
      rw [←hh.1]
      exact hv)
     rw [set_set] at h2
     refine ⟨σ',hst,?_⟩
     have e1:((st.aC C.E.dp k (cs.set (o+off) .u)).aL (.c k (o+off))).aC C.E.dp k (cs.set (o+off) (.l t es))=
       (st.aC C.E.dp k (cs.set (o+off) (.l t es))).aL (.c k (o+off)):=by
      have:=Gq C.E.dp st k (cs.set (o+off) .u) (cs.set (o+off) (.l t es))
      unfold St.aL
      unfold St.aC at this ⊢
      split
      ·rename_i hd;simp only [if_pos hd,FV]
      ·rename_i hd
       simp only [if_neg hd]
       congr 1
       funext k'
       simp only [ab]
       split<;>rfl
     rw [e1] at h2
     refine ⟨h2.size,h2.defers,fun d'=>?_,h2.bx,h2.hpd,h2.own,h2.ba,h2.new,h2.lay⟩
     have hnr:(st.aC C.E.dp k (cs.set (o+off) (.l t es))).rowAt C.E.dp (.c k (o+off))=none:=by
      simp only [St.rowAt,fX hb,if_true,List.getElem?_set,if_pos (bq hco)]
     by_cases hbb:(aj (st.aC C.E.dp k (cs.set (o+off) (.l t es))).fr d').fe (.c k (o+off))=true
     ·cases hy:aj (st.aC C.E.dp k (cs.set (o+off) (.l t es))).fr d'<;>rw [hy] at hbb<;>simp [AV.fe] at hbb
      ·subst hbb;intro hs;rw [hnr] at hs;cases hs
      ·subst hbb;intro t' es' hs;rw [hnr] at hs;cases hs
      ·subst hbb;intro t' es' hs;rw [hnr] at hs;cases hs
     ·have:=h2.fr d'
      have e2:aj ((st.aC C.E.dp k (cs.set (o+off) (.l t es))).aL (.c k (o+off))).fr d'=aj (st.aC C.E.dp k (cs.set (o+off) (.l t es))).fr d':=by
       simp only [St.aL,lF,if_neg hbb]
      rw [e2] at this
      exact this.AK fun pl _ _=>⟨(Jv _ _ _ _).symm,rfl⟩
    ·obtain rfl:=Option.some.inj he1
     exact ⟨σ,.refl _ _ _,h⟩
    ·obtain rfl:=Option.some.inj he1
     exact ⟨σ,.refl _ _ _,h.Iy hb⟩
    ·obtain rfl:=Option.some.inj he1
     exact ⟨σ,.refl _ _ _,h⟩
    ·cases he1
   ·cases he
  ·cases he
 | fzB d agg=>
  simp only [eH] at he
  split at he
  ·rename_i k hx
   split at he
   ·rename_i hkd
    obtain ⟨cs,hb,he1⟩:=Option.bind_eq_some_iff.1 he
    clear he
    split at he1
    ·rename_i hp
     have hb':st.box C.E.dp k=some cs:=by simp [St.box,hkd,hb]
     obtain ⟨vs,T,hB⟩:=h.bx k cs hb'
     have hs:=h.fr d
     rw [hx] at hs
     have hv:=VR.uY hs
     have hpl:=cT hp
     have hno:∀ c∈cs,∀ t es,c≠.o t es:=fun c hc t es e=>by have:=hpl c hc;rw [e] at this;cases this
     have hone:∀ c∈cs,c.one=true:=fun c hc=>(hB.one c hc).resolve_right fun e=>by have:=hpl c hc;rw [e] at this;cases this
     have h1:ad C {st with bx:=st.bx.filter fun y=>y.1 !=k.d} a w σ:=by
      refine h.zg (fun _=>.inr rfl) (fun k' cs' hk=>?_) (fun _ _ _ h=>h)
      by_cases hd:k'.dp=C.E.dp
      ·simp only [St.box,hd,if_true] at hk ⊢
       have hf:∀ bx:List (Nat×List AV),aq (bx.filter fun y=>y.1 !=k.d) k'.d=some cs'→aq bx k'.d=some cs':=by
        intro bx
        induction bx with
        | nil=>exact id
        | cons z bx ih=>
         intro hz
         simp only [List.filter_cons] at hz
         split at hz
         ·simp only [aq] at hz ⊢
          split
          ·rename_i e;rw [if_pos e] at hz;exact hz
          ·rename_i e;rw [if_neg e] at hz;exact ih hz
         ·rename_i hne
          simp only [aq]
          split
          ·rename_i e
           exfalso
           have h3:z.1=k.d:=by simpa using hne
           have hf2:∀ bx:List (Nat×List AV),aq (bx.filter fun y=>y.1 !=k.d) k.d=none:=by
            intro bx
            induction bx with
            | nil=>rfl
            | cons y bx ih=>
             simp only [List.filter_cons]
             split
             ·rename_i h4
              have:y.1≠k.d:=by simpa using h4
              simp only [aq,if_neg this,ih]
             ·exact ih
           rw [←e,h3,hf2] at hz;cases hz
          ·exact ih hz
       exact hf _ hk
      ·simp only [St.box,if_neg hd] at hk ⊢;exact hk
     have hgone:({st with bx:=st.bx.filter fun y=>y.1 !=k.d} : St).box C.E.dp k=none:=by
      simp only [St.box,hkd,if_true]
      have hf2:∀ bx:List (Nat×List AV),aq (bx.filter fun y=>y.1 !=k.d) k.d=none:=by
       intro bx
       induction bx with
       | nil=>rfl
       | cons y bx ih=>
        simp only [List.filter_cons]
        split
        ·rename_i h4
         have:y.1≠k.d:=by simpa using h4
         simp only [aq,if_neg this,ih]
        ·exact ih
      exact hf2 _
     have hi:Idle C {st with bx:=st.bx.filter fun y=>y.1 !=k.d} (some (.box k)):=
      ⟨fun _ _ _ _=>by simp,fun k' cs' hk e=>(by simp only [Option.some.injEq,cQ.box.injEq] at e;subst e;rw [hgone] at hk;cases hk),fun _ _ _ _ _ _ _=>by simp,fun _=>by simp,by simp⟩
     have h2:=h1.LN hB.ow hi
     have hW:C.W (σ.κ k):=hB.wr (yr hkd)
     have hlt:d<C.nt:=Iz (x:=.p k 0) h hv (by simp [undef])
     have hfin:∀ x:AV,x.cl=cs→x.pure=true→(∀ t es,x≠.o t es)→ad C {(st.bR d (.e x 0)) with bx:=st.bx.filter fun y=>y.1 !=k.d} a w (σ.ea (σ.κ k)):=by
      intro x hcl hxp _
      refine h2.bR (d:=d) (x:=.e x 0) ?_ (fun _ _ e=>by cases e) hlt
      rw [hv]
      have:=VR.e (w:=w) (I:=(σ.ea (σ.κ k)).I) (κ:=(σ.ea (σ.κ k)).κ) x 0 (σ.κ k) 0 vs T (0,0) (.inr rfl) hB.hh hxp (by unfold AV.nc;rw [hcl];have:=hB.size;omega) (by rw [hcl];exact hone) (fun m c hm=>by
       rw [hcl] at hm
       rw [Nat.zero_add]
       have hcm:=List.mem_of_getElem? hm
       exact (IA (hpl c hcm) (hB.cell m c hm)).wi (fun _ h=>.inl h) (fun _ _=>rfl) (hpl c hcm))
      exact this
     split at he1
     ·obtain rfl:=Option.some.inj he1
      exact ⟨_,.ea hW,hfin (.a cs) rfl (ib hpl) (fun _ _ e=>by cases e)⟩
     ·split at he1
      ·rename_i c
       obtain rfl:=Option.some.inj he1
       have hc1:=hone c (by simp)
       have hcl:c.cl=[c]:=by cases c<;>first | rfl | (simp [AV.one] at hc1)
       exact ⟨_,.ea hW,hfin c hcl (hpl c (by simp)) (hno c (by simp))⟩
      ·cases he1
    ·cases he1
   ·cases he
  ·cases he
 | iq d off nd sz=>
  simp only [eH] at he
  split at he
  ·rename_i k o hx
   split at he
   ·rename_i hkd
    obtain ⟨cs,hb,he1⟩:=Option.bind_eq_some_iff.1 he
    clear he
    have hb':st.box C.E.dp k=some cs:=by simp [St.box,hkd,hb]
    split at he1
    ·rename_i t es hco
     split at he1
     ·rename_i hem
      obtain rfl:=Option.some.inj he1
      obtain rfl:es=[]:=by simpa using hem
      obtain ⟨vs,T,hB⟩:=h.bx k cs hb'
      have ho:OwnAt C.P C.W w σ (.rowC k (o+off)) ((Pl.c k (o+off)).fK C.E=true) t [] (vs.getD (o+off) undef):=hB.cell _ _ hco
      obtain ⟨h1,hi⟩:=h.AP (pl:=.c k (o+off)) (st':=st.aC C.E.dp k (cs.set (o+off) .u)) (by simp [St.putAt,hb'])
      have hb1:((st.aC C.E.dp k (cs.set (o+off) .u)).aL (.c k (o+off))).box C.E.dp k=some (cs.set (o+off) .u):=by rw [AJ,fX hb',if_pos rfl]
      refine ⟨σ,.refl _ _ _,(h1.aL (.c k (o+off))).AQ (x:=.l t []) (off:=o+off) hb1 (fun t' es' e=>by rw [List.getElem?_set] at e;simp [bq hco] at e) rfl (fun _=>rfl) (fun d'=>iM _ _ _) (fun vs' T' hh=>?_)⟩
      rw [hB.hh] at hh
      simp only [Option.some.injEq,Obj.cells.injEq] at hh
      rw [←hh.1]
      rcases ho with ⟨_,hv⟩ | ⟨g,cap,cs',hv,_⟩
      ·rw [hv];exact VR.lnil _ _ _
      ·rw [hv];exact VR.lnil _ _ _
     ·rename_i hem
      split at he1
      ·rename_i hc
       obtain rfl:=Option.some.inj he1
       simp only [Bool.and_eq_true] at hc
       exact h.iq hkd hb hco (fun e=>hem (by simp [e])) (fun e he=>by simpa using List.all_eq_true.1 hc.1 e he) hc.2
      ·cases he1
    ·obtain rfl:=Option.some.inj he1
     exact ⟨σ,.refl _ _ _,h⟩
    ·cases he1
   ·cases he
  ·cases he
 | unp d off=>
  simp only [eH] at he
  split at he
  ·rename_i k o hx
   split at he
   ·rename_i hkd
    obtain ⟨cs,hb,he1⟩:=Option.bind_eq_some_iff.1 he
    clear he
    split at he1
    ·rename_i k2 n sz hco
     split at he1
     ·rename_i hk2
      obtain ⟨cs2,hb2,he2⟩:=Option.bind_eq_some_iff.1 he1
      split at he2
      ·rename_i hc
       obtain rfl:=Option.some.inj he2
       simp only [Bool.and_eq_true,decide_eq_true_eq] at hc
       exact h.ZS hkd hb hco hk2.1 hk2.2 hb2 hc.1.1 hc.1.2 hc.2
      ·cases he2
     ·cases he1
    ·obtain rfl:=Option.some.inj he1
     exact ⟨σ,.refl _ _ _,h⟩
    ·cases he1
   ·cases he
  ·cases he
theorem ad.pre:∀ (ps:List uy){st st':St}{σ:Sp},ad C st a w σ→qP C.E st ps=some st'→∃ σ',bN C w σ w σ'∧ad C st' a w σ'
 | [],st,st',σ,h,he=>by obtain rfl:=Option.some.inj he;exact ⟨σ,.refl _ _ _,h⟩
 | p::ps,st,st',σ,h,he=>by
  obtain ⟨st1,h1,h2⟩:=Option.bind_eq_some_iff.1 he
  obtain ⟨σ1,hs1,hc1⟩:=h.V1 h1
  obtain ⟨σ2,hs2,hc2⟩:=ad.pre ps hc1 h2
  exact ⟨σ2,hs1.trans hs2,hc2⟩
end
end Go.Proofs.YtkkkkondjclcnaaGreat.A
