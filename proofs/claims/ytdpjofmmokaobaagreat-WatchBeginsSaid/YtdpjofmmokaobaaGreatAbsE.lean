/- append: the model does what the abstract run says. -/
import Derived.Test.YtdpjofmmokaobaaGreatAbsA
set_option linter.unusedSectionVars false
set_option linter.unusedVariables false
set_option linter.unusedSimpArgs false
set_option linter.constructorNameAsVariable false
namespace Go.Proofs.YtdpjofmmokaobaaGreat.A
open Go
variable [bJ]
structure Flat(w:World)(I:Nat→Prop)(κ:Key→Nat)(sz:Nat)(es:List AV)(vs:List Value):Prop where
 len:vs.length=es.length*sz
 nc:∀ e∈es,e.nc=sz
 pure:∀ e∈es,e.pure=true
 one:∀ e∈es,∀ c∈e.cl,c.one=true
 cell:∀ (j:Nat)(e:AV)(m:Nat)(c:AV),es[j]? =some e→e.cl[m]? =some c→VR w I κ c (vs[j*sz+m]?.getD undef)
section
variable {w:World}{I:Nat→Prop}{κ:Key→Nat}{sz:Nat}
theorem Ap{e:AV}{j m n:Nat}(hj:j<n)(hm:m<e.cl.length)(he:e.nc=sz):j*sz+m<n*sz:=by
 have:(j+1)*sz≤n*sz:=Nat.mul_le_mul_right _ hj
 rw [Nat.add_mul] at this
 have he':e.cl.length=sz:=he
 omega
theorem Flat.nil:Flat w I κ sz [] []:=⟨by simp,by simp,by simp,by simp,fun j e m c h=>by simp at h⟩
theorem Flat.append{es fs:List AV}{vs us:List Value}(h:Flat w I κ sz es vs)(h':Flat w I κ sz fs us):Flat w I κ sz (es++fs) (vs++us):=by
 refine ⟨by simp [h.len,h'.len,Nat.add_mul],fun e he=>?_,fun e he=>?_,fun e he=>?_,fun j e m c hj hm=>?_⟩
 ·rcases List.mem_append.1 he with he | he
  ·exact h.nc e he
  ·exact h'.nc e he
 ·rcases List.mem_append.1 he with he | he
  ·exact h.pure e he
  ·exact h'.pure e he
 ·rcases List.mem_append.1 he with he | he
  ·exact h.one e he
  ·exact h'.one e he
 ·have hml:=bZ hm
  rw [List.getElem?_append] at hj
  split at hj
  ·rename_i hlt
   have:=Ap hlt hml (h.nc e (List.mem_of_getElem? hj))
   rw [List.getElem?_append,if_pos (by rw [h.len];exact this)]
   exact h.cell j e m c hj hm
  ·rename_i hge
   have hle:es.length*sz≤j*sz:=Nat.mul_le_mul_right _ (by omega)
   rw [List.getElem?_append,if_neg (by rw [h.len];omega),h.len]
   have:=h'.cell (j - es.length) e m c hj hm
   rw [Nat.sub_mul] at this
   rwa [show j*sz+m - es.length*sz=j*sz - es.length*sz+m by omega]
theorem Flat.TE{es:List AV}{vs:List Value}(h:Flat w I κ sz es vs):∀ u∈vs,u.oneCell'=true:=by
 intro u hu
 obtain ⟨i,hi⟩:=List.mem_iff_getElem?.1 hu
 have hil:=bZ hi
 rw [h.len] at hil
 have hpos:0<sz:=Nat.pos_of_ne_zero fun e=>by subst e;simp at hil
 have hj:i / sz<es.length:=Nat.div_lt_of_lt_mul (by rw [Nat.mul_comm];exact hil)
 have hm:i % sz<sz:=Nat.mod_lt _ hpos
 have he:=List.getElem_mem hj
 have hml:i % sz<(es[i / sz]).cl.length:=by
  have:(es[i / sz]).cl.length=sz:=h.nc _ he
  omega
 have:=h.cell _ _ _ _ (List.getElem?_eq_getElem hj) (List.getElem?_eq_getElem hml)
 rw [Nat.mul_comm,Nat.div_add_mod,hi] at this
 exact this.En (h.one _ he _ (List.getElem_mem hml))
theorem Flat.BL{es:List AV}{cs:Array Value}{o:Nat}(hnc:∀ e∈es,e.nc=sz)(hp:∀ e∈es,e.pure=true)(h1:∀ e∈es,∀ c∈e.cl,c.one=true)(hs:o+es.length*sz≤cs.size)
  (hc:∀ (j:Nat)(e:AV)(m:Nat)(c:AV),es[j]? =some e→e.cl[m]? =some c→VR w I κ c (cs.getD (o+j*sz+m) undef)):Flat w I κ sz es ((cs.toList.drop o).take (es.length*sz)):=by
 refine ⟨by simp;omega,hnc,hp,h1,fun j e m c hj hm=>?_⟩
 have:=Ap (bZ hj) (bZ hm) (hnc e (List.mem_of_getElem? hj))
 have hv:=hc j e m c hj hm
 rw [List.getElem?_take,if_pos this,List.getElem?_drop]
 rw [Nat.add_assoc] at hv
 simpa [Array.getD_eq_getD_getElem?] using hv
theorem yh{g o n:Nat}{cs:Array Value}{T:TypeId}{fz:Nat×Nat}(hh:w.heap[g]? =some (.cells cs T fz)):∀ j u,((cs.toList.drop o).take n)[j]? =some u→w.cell? ((⟨g,o,none⟩:Addr).add j)=some u:=by
 intro j u hj
 rw [add_lit,rF hh]
 rw [List.getElem?_take] at hj
 split at hj
 ·rw [List.getElem?_drop] at hj
  simpa using hj
 ·cases hj
end
section
variable {C:Cx}{st:St}{a:Act}{w:World}{σ:Sp}{o:Oper}{d:Option Nat}{R:Rec}{Ω:cK}{r:AV×St}
theorem dZ.flat{L:dk}{wp:Prop}{t:TypeId}{es:List AV}{g cap:Nat}{cs:Array Value}(hR:dZ C.P C.W w σ L wp t es g cap cs):Flat w σ.I σ.κ (C.P.cellsOf t) es ((cs.toList.drop 0).take (es.length*C.P.cellsOf t)):=
 .BL hR.nc hR.pure hR.one (by rw [hR.size,Nat.zero_add];exact Nat.mul_le_mul_right _ hR.ecap) (fun j e m c hj hm=>by rw [Nat.zero_add];exact hR.cell j e m c hj hm)
theorem an.src(h:an C st a w σ){y:Operand}{x:bj}{q:TypeId×List AV}{sz:Nat}{tx e':TypeId}(hk:C.P.underlying tx=some (.slice e'))(hl:bG y x=true)(he:st.elems C.E.dp (st.ev x)=some q)(hnc:∀ e∈q.2,e.nc=sz) :
  ∃ news,Src C.P sz tx (a.eval y) q.2.length news w∧Flat w σ.I σ.κ sz q.2 news∧(q.2≠[]→∃ b n c,a.eval y= .slice (some b) n c∧n=q.2.length∧∀ j u,news[j]? =some u→w.cell? (b.add j)=some u):=by
 have hnil:∀ A c,a.eval y= .slice A 0 c→q.2=[]→∃ news,Src C.P sz tx (a.eval y) q.2.length news w∧Flat w σ.I σ.κ sz q.2 news∧(q.2≠[]→∃ b n c,a.eval y= .slice (some b) n c∧n=q.2.length∧∀ j u,news[j]? =some u→w.cell? (b.add j)=some u):=by
  intro A c hv hq
  refine ⟨[],?_,by rw [hq];exact .nil,fun hne=>absurd hq hne⟩
  rw [hv,hq]
  cases A with
  | none=>exact Src.ofNil w hk c
  | some b=>exact Src.ofSlice w hk b 0 c [] (by simp) (fun j u hj=>by simp at hj) (fun u hu=>by cases hu)
 have hsome:∀ b n c news,a.eval y= .slice (some b) n c→n=q.2.length→Flat w σ.I σ.κ sz q.2 news→(∀ j u,news[j]? =some u→w.cell? (b.add j)=some u)→
   ∃ news,Src C.P sz tx (a.eval y) q.2.length news w∧Flat w σ.I σ.κ sz q.2 news∧(q.2≠[]→∃ b n c,a.eval y= .slice (some b) n c∧n=q.2.length∧∀ j u,news[j]? =some u→w.cell? (b.add j)=some u):=by
  intro b n c news hv hn hf hcell
  refine ⟨news,?_,hf,fun _=>⟨b,n,c,hv,hn,hcell⟩⟩
  rw [hv,hn]
  exact Src.ofSlice w hk b _ c news hf.len hcell hf.TE
 have hrow:∀ pl t es,st.rowAt C.E.dp pl=some (t,es)→a.eval y=dU w σ a pl→q=(t,es)→
   ∃ news,Src C.P sz tx (a.eval y) q.2.length news w∧Flat w σ.I σ.κ sz q.2 news∧(q.2≠[]→∃ b n c,a.eval y= .slice (some b) n c∧n=q.2.length∧∀ j u,news[j]? =some u→w.cell? (b.add j)=some u):=by
  intro pl t es hr hv hq
  subst hq
  rcases h.row hr with ⟨h1,h2⟩ | ⟨g,cap,cs,h2,hR⟩
  ·exact hnil none 0 (hv.trans h2) h1
  ·by_cases hne:es=[]
   ·exact hnil (some ⟨g,0,none⟩) cap (by rw [hv,h2,hne];rfl) hne
   ·have hsz:C.P.cellsOf t=sz:=by
     cases es with
     | nil=>exact absurd rfl hne
     | cons e es=>exact (hR.nc e (by simp)).symm.trans (hnc e (by simp))
    have hf:=hR.flat
    rw [hsz] at hf
    exact hsome _ _ cap _ (hv.trans h2) rfl hf (yh hR.hh)
 cases hx:st.ev x with
 | l t es=>
  rw [hx] at he
  obtain rfl:=Option.some.inj he
  obtain ⟨A,cap,hv,hes⟩:=(hx▸h.dV hl (by rw [hx];simp) (by rw [hx];rfl)).FE
  rcases hes with hes | ⟨g,o,cs,T,fz,sz',rfl,hI,hh,ht,hpos,hnc',hsize,hp,h1,hcap,hmax,hc⟩
  ·subst hes
   exact hnil A cap hv rfl
  ·by_cases hne:es=[]
   ·subst hne;exact hnil _ cap hv rfl
   ·have hsz:sz'=sz:=by
     cases es with
     | nil=>exact absurd rfl hne
     | cons e es=>exact (hnc' e (by simp)).symm.trans (hnc e (by simp))
    subst hsz
    exact hsome _ _ cap _ hv rfl (.BL hnc' hp h1 hsize hc) (yh hh)
 | n=>
  rw [hx] at he
  obtain rfl:=Option.some.inj he
  exact hnil none 0 (hx▸h.dV hl (by rw [hx];simp) (by rw [hx];rfl)).An rfl
 | o t es=>
  rw [hx] at he
  obtain rfl:=Option.some.inj he
  obtain ⟨n,rfl,hn⟩:=de hx rfl hl
  exact hrow (.s n) t es (by simp [St.rowAt,hn]) (by rw [tK hl];rfl) rfl
 | r pl=>
  rw [hx] at he
  obtain ⟨n,rfl,hn⟩:=de hx rfl hl
  have hr:st.rowAt C.E.dp pl=some q:=he
  exact hrow pl q.1 q.2 hr ((hn▸h.slot hl) (by rw [hr];rfl)) rfl
 | v pl lo len=>
  rw [hx] at he
  obtain ⟨n,rfl,hn⟩:=de hx rfl hl
  simp only [St.elems] at he
  split at he
  ·rename_i t es hr
   split at he
   ·rename_i hll
    obtain rfl:=Option.some.inj he
    obtain ⟨A,n',cap,hpv,hv⟩:=(hn▸h.slot hl) t es hr hll
    have hlen:((es.drop lo).take len).length=len:=by simp;omega
    by_cases hne:len=0
    ·subst hne
     refine hnil _ _ hv (by simp)
    ·obtain ⟨g,cap',cs,hpv',hR⟩:=h.yc hr (fun e=>by subst e;simp at hll;omega)
     obtain ⟨rfl,rfl,rfl⟩:A=some ⟨g,0,none⟩∧n'=es.length∧cap=cap':=by
      rw [hpv] at hpv';simpa using hpv'
     have hec:=hR.ecap
     have hsz:C.P.cellsOf t=sz:=by
      cases hq:(es.drop lo).take len with
      | nil=>rw [hq] at hlen;simp at hlen;omega
      | cons e fs=>
       have he:e∈(es.drop lo).take len:=by rw [hq];simp
       exact (hR.nc e (List.mem_of_mem_drop (List.mem_of_mem_take he))).symm.trans (hnc e he)
     rw [if_neg (by omega),hsz] at hv
     simp only [Option.map_some,add_lit,Nat.zero_add] at hv
     refine hsome ⟨g,lo*sz,none⟩ len (cap - lo) ((cs.toList.drop (lo*sz)).take (((es.drop lo).take len).length*sz)) hv hlen.symm ?_ (yh hR.hh)
     refine .BL hnc (fun e he=>hR.pure e (List.mem_of_mem_drop (List.mem_of_mem_take he))) (fun e he=>hR.one e (List.mem_of_mem_drop (List.mem_of_mem_take he))) ?_ fun j e m c hj hm=>?_
     ·rw [hlen,hR.size,hsz,←Nat.add_mul]
      exact Nat.mul_le_mul_right _ (by omega)
     ·rw [List.getElem?_take] at hj
      split at hj
      ·rw [List.getElem?_drop] at hj
       have:=hR.cell _ e m c hj hm
       rwa [hsz,Nat.add_mul] at this
      ·cases hj
   ·cases he
  ·cases he
 | _=>rw [hx] at he;cases he
theorem an.G1{k:Key}{cs:List AV}{off:Nat}(h:an C st a w σ)(hb:st.box C.E.dp k=some cs):an C (st.aX C.E.dp k (cs.set off .u)) a w σ:=by
 have hbox:=fun k'=>kX (cs':=cs.set off .u) hb k'
 have hget:∀ (i:Nat)(c:AV),(cs.set off AV.u)[i]? =some c→c=AV.u∨cs[i]? =some c:=by
  intro i c hi
  rw [List.getElem?_set] at hi
  split at hi
  ·split at hi
   ·exact .inl (Option.some.inj hi).symm
   ·cases hi
  ·exact .inr hi
 refine ⟨h.size,h.defers,fun d=>?_,fun k' cs' hk=>?_,fun k' cs' hk hc'=>?_,h.own,h.bH,h.new,h.lay⟩
 ·rw [lZ]
  refine (h.fr d).zH fun pl _ ⟨r,hr⟩=>⟨?_,rfl⟩
  rw [hr]
  cases pl with
  | s d'=>rw [oF] at hr;exact hr.symm
  | c k' off'=>
   simp only [St.rowAt,hbox] at hr ⊢
   by_cases hk:k'=k
   ·subst hk
    simp only [if_true] at hr
    cases hc:(cs.set off AV.u)[off']? with
    | none=>simp [hc] at hr
    | some c=>
     rw [hc] at hr
     rcases hget _ _ hc with rfl | h2
     ·simp at hr
     ·simp only [hb,h2];exact hr.symm
   ·simp only [if_neg hk] at hr
    exact hr.symm
 ·rw [hbox] at hk
  by_cases hkk:k'=k
  ·subst hkk
   simp only [if_true] at hk
   obtain rfl:=Option.some.inj hk
   obtain ⟨vs,T,hB⟩:=h.bx k' cs hb
   refine ⟨vs,T,hB.hh,by simpa using hB.size,hB.ow,hB.wr,fun c hm=>?_,fun i c hi=>?_,fun t kk u ht=>(List.mem_or_eq_of_mem_set ht).elim (fun hm=>by simpa using hB.ty t kk u hm) (fun e=>by cases e),hB.kb⟩
   ·rcases List.mem_or_eq_of_mem_set hm with hm | rfl
    ·exact hB.one c hm
    ·exact .inr rfl
   ·rcases hget i c hi with rfl | h2
    ·exact VR.u _
    ·exact hB.cell i c h2
  ·simp only [if_neg hkk] at hk
   exact h.bx k' cs' hk
 ·by_cases hkd:k.dp=C.E.dp
  ·simp only [St.aX,hkd,if_true] at hc'
   exact h.hpd k' cs' hk hc'
  ·simp only [St.aX,if_neg hkd,ad] at hc'
   split at hc'
   ·rename_i hkk
    subst hkk
    obtain rfl:=Option.some.inj hc'
    have hold:=h.hpd k' cs hk (by simpa [St.box,hkd] using hb)
    refine ⟨hold.1,fun c hm=>?_⟩
    rcases List.mem_or_eq_of_mem_set hm with hm | rfl
    ·exact hold.2 c hm
    ·rfl
   ·exact h.hpd k' cs' hk hc'
theorem an.C9{pl:Pl}{st':St}(h:an C st a w σ)(hp:st.putAt C.E.dp .u pl=some st'):an C st' a w σ∧Idle C st' (some (pl.m0 C.E.dp)):=by
 cases pl with
 | s d=>
  obtain rfl:=Option.some.inj hp
  exact ⟨h.GZ d,sI fun t es=>by rw [ju,if_pos rfl];simp⟩
 | c k off=>
  simp only [St.putAt] at hp
  split at hp
  ·rename_i cs hb
   obtain rfl:=Option.some.inj hp
   refine ⟨h.G1 hb,⟨fun _ _ _ _=>by simp [Pl.m0],fun _ _ _=>by simp [Pl.m0],fun k' cs' off' t es hk hc e=>?_,fun _=>by simp [Pl.m0],by simp [Pl.m0]⟩⟩
   simp only [Pl.m0,Option.some.injEq,dk.rowC.injEq] at e
   obtain ⟨rfl,rfl⟩:=e
   rw [kX hb,if_pos rfl] at hk
   obtain rfl:=Option.some.inj hk
   rw [List.getElem?_set] at hc
   simp at hc
  ·cases hp
theorem an.consume(h:an C st a w σ){y:Operand}{x:bj}{t:TypeId}{q:List AV×St}(hl:bG y x=true)(he:consume C.E st t x=some q) :
  an C q.2 a w σ∧((q.1=[]∧a.eval y= .slice none 0 0)∨
   ∃ L g cap cs,a.eval y= .slice (some ⟨g,0,none⟩) q.1.length cap∧dZ C.P C.W w σ L True t q.1 g cap cs∧Idle C q.2 (some L)):=by
 have hfin:∀ {pl es st' v},an C st' a w σ→Idle C st' (some (Pl.m0 C.E.dp pl))→OwnAt C.P C.W w σ (pl.m0 C.E.dp) True t es v→a.eval y=v→q=(es,st')→
   an C q.2 a w σ∧((q.1=[]∧a.eval y= .slice none 0 0)∨∃ L g cap cs,a.eval y= .slice (some ⟨g,0,none⟩) q.1.length cap∧dZ C.P C.W w σ L True t q.1 g cap cs∧Idle C q.2 (some L)):=by
  intro pl es st' v hc hi ho hv hq
  subst hq
  refine ⟨hc,?_⟩
  rcases ho with ⟨h1,h2⟩ | ⟨g,cap,cs,h2,hR⟩
  ·exact .inl ⟨h1,hv.trans h2⟩
  ·exact .inr ⟨_,g,cap,cs,hv.trans h2,hR,hi⟩
 unfold A.consume at he
 split at he
 ·obtain rfl:=Option.some.inj he
  exact ⟨h,.inl ⟨rfl,(h.qt (x:=.c .n) hl rfl).An⟩⟩
 ·cases he
 ·rename_i m
  have hs:=h.slot hl
  split at he
  ·rename_i hx
   obtain rfl:=Option.some.inj he
   rw [hx] at hs
   exact ⟨h,.inl ⟨rfl,VR.An hs⟩⟩
  ·rename_i t' es hx
   split at he
   ·rename_i htt
    subst htt
    rw [hx] at hs
    exact hfin (pl:=.s m) (h.GZ m) (sI fun t es=>by rw [ju,if_pos rfl];simp) hs rfl (Option.some.inj he).symm
   ·cases he
  ·rename_i pl hx
   split at he
   ·rename_i hm
    obtain ⟨⟨t',es⟩,hr,he1⟩:=Option.bind_eq_some_iff.1 he
    clear he
    simp only at he1
    split at he1
    ·rename_i htt
     subst htt
     obtain ⟨st',hp,he2⟩:=Option.bind_eq_some_iff.1 he1
     clear he1
     obtain ⟨h1,h2⟩:=h.C9 hp
     rw [hx] at hs
     exact hfin h1 h2 ((h.row hr).zI fun _=>hm) (hs (by rw [hr];rfl)) (Option.some.inj he2).symm
    ·cases he1
   ·cases he
  ·rename_i pl lo len hx
   split at he
   ·rename_i hm
    simp only [Bool.and_eq_true,beq_iff_eq] at hm
    obtain ⟨hm,hlo⟩:=hm
    obtain ⟨⟨t',es⟩,hr,he1⟩:=Option.bind_eq_some_iff.1 he
    clear he
    simp only at he1
    split at he1
    ·rename_i htt
     obtain ⟨hle,htt⟩:=htt
     obtain ⟨st',hp,he2⟩:=Option.bind_eq_some_iff.1 he1
     clear he1
     obtain ⟨h1,h2⟩:=h.C9 hp
     rw [hx] at hs
     subst hlo
     have hv:=hs t' es hr (by omega)
     subst htt
     exact hfin h1 h2 (((h.row hr).short hle hv).zI fun _=>hm) rfl (Option.some.inj he2).symm
    ·cases he1
   ·cases he
  ·cases he
theorem TF{t sz by_:Nat}{x y:bj}(h:an C st a w σ)(hl:bk C.P (.ap t sz by_ x y) o.op=true)(he:execOp R Ω C.E st d (.ap t sz by_ x y)=some r) :
  cY C o d a w σ r.2 r.1:=by
 obtain ⟨c,x',y',ty,hop,hcal,hargs,htys,hlx,hly,hty,hsz,hby,hz⟩:∃ c x' y' ty,o.op= .call c∧c.callee= .builtin .append∧c.args.toList=[x',y']∧c.argTypes.toList=[ty,ty]∧bG x' x=true∧bG y' y=true∧
   iv C.P ty=some t∧sized C.P t sz=true∧C.P.bytesOf t=by_∧∃ zv,zeroOf C.P t=some zv∧zv.cells.size=sz:=by
  simp only [bk] at hl;split at hl
  ·rename_i c hy
   simp only [Bool.and_eq_true] at hl
   obtain ⟨h1,h2⟩:=hl
   split at h1
   ·rename_i hcal
    split at h2
    ·rename_i x' y' t1 t2 ha ht
     simp only [Bool.and_eq_true,beq_iff_eq] at h2
     obtain ⟨⟨⟨⟨⟨⟨h3,h4⟩,h5⟩,h6⟩,h7⟩,h8⟩,h9⟩:=h2
     subst h5
     split at h9
     ·rename_i zv hzv
      exact ⟨c,x',y',t1,hy,hcal,ha,ht,h3,h4,h6,h7,h8,zv,hzv,by simpa using h9⟩
     ·cases h9
    ·cases h2
   ·cases h1
  ·cases hl
 obtain ⟨zv,hzv,hzs⟩:=hz
 have hu:=uQ hty
 obtain ⟨i,hi,hiz⟩:=tB hzv
 obtain ⟨_,hcells,hpos⟩:=kW hsz
 have hisz:i.size=sz:=by rw [←hcells];simp [Program.cellsOf,hi]
 have hiby:i.bytes=by_:=by rw [←hby];simp [Program.bytesOf,hi]
 have hargs':c.args=#[x',y']:=by rw [←Array.toArray_toList (xs:=c.args),hargs]
 have htys':c.argTypes=#[ty,ty]:=by rw [←Array.toArray_toList (xs:=c.argTypes),htys]
 have hrun:∀ cv w',(Builtin.append_ #[ty,ty] o.type #[a.eval x',a.eval y']).run C.P w= .ok cv w'→(Go.execOp a.eval o).run C.P w= .ok (.value cv) w':=by
  intro cv w' hr
  unfold Go.execOp
  simp [hop,resolve,hcal,hargs',htys',invoke,builtin,hr]
 simp only [execOp] at he
 obtain ⟨dd,hdd,he1⟩:=Option.bind_eq_some_iff.1 he
 clear he
 obtain ⟨ys,hys,he2⟩:=Option.bind_eq_some_iff.1 he1
 clear he1
 obtain ⟨q,hq,he3⟩:=Option.bind_eq_some_iff.1 he2
 clear he2
 split at he3
 ·rename_i hcond
  simp only [Bool.and_eq_true,decide_eq_true_eq] at hcond
  obtain ⟨⟨hnc,hbytes⟩,hmax⟩:=hcond
  obtain rfl:=Option.some.inj he3
  have hnc':∀ e∈ys.2,e.nc=sz:=fun e he=>by simpa using List.all_eq_true.1 hnc e he
  obtain ⟨news,hsrc,hf,hsl⟩:=h.src (sz:=sz) hu hly hys hnc'
  obtain ⟨hc,hdst⟩:=h.consume hlx hq
  have hsrc':Src C.P i.size ty (a.eval y') ys.2.length news w:=by rw [hisz];exact hsrc
  have hm63:(((q.1.length+ys.2.length:Nat):Int))≤9223372036854775807:=by simp [maxLen] at hmax;omega
  have hgrow:∀ A cap olds,a.eval x'= .slice A q.1.length cap→q.1.length≤cap→(Builtin.firstCells i.size q.1.length (.slice A q.1.length cap)).run C.P w.drew= .ok olds.toArray w.drew→Flat w σ.I σ.κ sz q.1 olds→
    cap<q.1.length+ys.2.length→cY C o d a w σ (q.2.bm (.s dd)) (.o t (q.1++ys.2)):=by
   intro A cap olds hv hle hold hfo hlt
   have hap:=run_append_grow_src (P:=C.P) w ty ty o.type t i zv hu hi hiz A q.1.length cap olds hold _ _ news hsrc' hlt hm63
    (growslice_fits hlt (by rw [hiby];exact hbytes))
   have hge:=grownCap_ge w (q.1.length+ys.2.length) cap t
   have hgm:=grownCap_le_maxLen w (q.1.length+ys.2.length) cap t hmax
   generalize hN:grownCap w (q.1.length+ys.2.length) cap t=N at hap hge hgm
   have hff:=hfo.append hf
   have hlen:(olds++news).length=(q.1.length+ys.2.length)*sz:=by rw [hff.len,List.length_append]
   obtain ⟨σ',hst,hc',ho,_⟩:=(hc.bm (.s dd)).drew.newRow (L:=.rowS C.E.dp dd) (t:=t) (es:=q.1++ys.2) (cap:=N) (cs:=(olds++news).toArray++Builtin.zeroCells zv.cells (N - (q.1.length+ys.2.length)))
    (by omega) (fun e he=>by rw [hcells];exact hff.nc e he) (by simpa using hge) hgm
    (by
     rw [Array.size_append,size_zeroCells,hzs,hcells,List.size_toArray,hlen,←Nat.add_mul]
     congr 1;omega) hff.pure hff.one (fun j e m c hj hq'=>by
      have hlt2:=Ap (bZ hj) (bZ hq') (hff.nc e (List.mem_of_getElem? hj))
      rw [List.length_append] at hlt2
      rw [hcells,Array.getD_eq_getD_getElem?,Array.getElem?_append,if_pos (by rw [List.size_toArray,hlen];exact hlt2),List.getElem?_toArray]
      exact (hff.cell j e m c hj hq').mono (fun _ h=>h) (fun _ _=>rfl) (fun _ _=>rfl))
   rw [List.length_append] at ho
   exact .gY (hrun _ _ (by rw [hv];exact hap)) (an.qu hdd hst.drew hc' ho)
  rcases hdst with ⟨h1,h2⟩ | ⟨L,g,cap,cs,hv,hR,hid⟩
  ·
   rw [h1] at hgrow hm63 ⊢
   by_cases hys0:ys.2=[]
   ·have hap:=run_append_nothing (P:=C.P) w ty ty o.type t i hu hi none 0 0 (Nat.le_refl _) (a.eval y') (by
     have:=hsrc'
     rw [hys0] at this
     have hn:news=[]:=List.eq_nil_of_length_eq_zero (by rw [hf.len,hys0];simp)
     rw [hn] at this
     exact this)
    rw [hys0]
    exact .gY (hrun _ _ (by rw [h2];exact hap)) (an.qu hdd (.refl _ _ _) (hc.bm _) (.inl ⟨rfl,rfl⟩))
   ·have hpos':0<ys.2.length:=by cases hq:ys.2 with | nil=>exact absurd hq hys0 | cons=>simp
    exact hgrow none 0 [] h2 (Nat.le_refl _) (by rw [run_firstCells_none]) .nil (by simpa using hpos')
  ·have hszt:C.P.cellsOf t=sz:=hcells
   by_cases hys0:ys.2=[]
   ·have hap:=run_append_nothing (P:=C.P) w ty ty o.type t i hu hi (some ⟨g,0,none⟩) q.1.length cap hR.ecap (a.eval y') (by
     have:=hsrc'
     rw [hys0] at this
     have hn:news=[]:=List.eq_nil_of_length_eq_zero (by rw [hf.len,hys0];simp)
     rw [hn] at this
     exact this)
    rw [hys0,List.append_nil]
    refine .gY (hrun _ _ (by rw [hv];exact hap)) (an.qu hdd (.relabel (hR.wr trivial)) ((hc.relabel hR.ow hid).bm _) (.inr ⟨g,cap,cs,rfl,hR.relabel⟩))
   ·by_cases hroom:q.1.length+ys.2.length≤cap
    ·obtain ⟨b,n,c',hvy,hn,hcell⟩:=hsl hys0
     have hfit:q.1.length*i.size+news.length≤cs.size:=by
      rw [hf.len,hR.size,hisz,hszt,←Nat.add_mul];exact Nat.mul_le_mul_right _ hroom
     have hap:=run_append_room (P:=C.P) w ty o.type t i hu hi g q.1.length cap cs hR.hh b n c' news (by rw [hisz,hn];exact hf.len) hcell hf.TE (by rw [hn];exact hroom) hfit
     have hw:((cs.toList.take (q.1.length*i.size)++news++cs.toList.drop (q.1.length*i.size+news.length)).toArray)=oS cs (q.1.length*sz) news:=by rw [hisz];rfl
     rw [hw,hn] at hap
     have hfit':q.1.length*sz+news.length≤cs.size:=by rw [←hisz];exact hfit
     have hsame:=fC.setRow hc hR.ow (oS cs (q.1.length*sz) news)
     have hc':=hc.FC hsame hid
     have hst:=cm.setRow hc hR.ow (hR.wr trivial) (oS cs (q.1.length*sz) news)
     have hfo:=hR.flat
     rw [hszt] at hfo
     have hff:=hfo.append hf
     have hR':dZ C.P C.W (w.setRow g (oS cs (q.1.length*sz) news)) σ L True t (q.1++ys.2) g cap (oS cs (q.1.length*sz) news):=by
      refine ⟨hR.ow,hR.wr,setRow_heap w _ _ _ _ _ hR.hh,hR.pos,fun e he=>by rw [hszt];exact hff.nc e he,by simpa using hroom,hR.max,by rw [yf _ _ _ hfit',hR.size],hff.pure,hff.one,fun j e m c hj hm=>?_,hR.base⟩
      have hv':=hff.cell j e m c hj hm
      have hlt2:=Ap (bZ hj) (bZ hm) (hff.nc e (List.mem_of_getElem? hj))
      rw [hszt,yg _ _ _ hfit']
      refine VR.same hsame ?_
      have hol:((cs.toList.drop 0).take (q.1.length*sz)).length=q.1.length*sz:=hfo.len
      rw [List.getElem?_append,hol] at hv'
      rw [List.length_append,Nat.add_mul] at hlt2
      by_cases hj2:j*sz+m<q.1.length*sz
      ·rw [if_pos hj2] at hv'
       rw [if_neg (by omega)]
       rw [List.getElem?_take,if_pos hj2,List.drop_zero] at hv'
       simpa [Array.getD_eq_getD_getElem?] using hv'
      ·rw [if_neg hj2] at hv'
       rw [if_pos ⟨by omega,by rw [hf.len];exact hlt2⟩]
       exact hv'
     refine .gY (hrun _ _ (by rw [hv,hvy,hn];exact hap)) (an.qu hdd (hst.trans (.relabel (hR.wr trivial))) ((hc'.relabel hR.ow hid).bm _) (.inr ⟨g,cap,_,by rw [List.length_append],hR'.relabel⟩))
    ·have hfo:=hR.flat
     rw [hszt] at hfo
     refine hgrow (some ⟨g,0,none⟩) cap _ hv hR.ecap (run_firstCells_some w.drew i.size _ _ _ _ _ (by rw [hisz];exact hfo.len) (fun j u hj=>?_)) hfo (by omega)
     have:=yh hR.hh j u hj
     simpa using this
 ·cases he3
end
variable [bJ]
section
variable {C:Cx}{st:St}{a:Act}{w:World}{σ:Sp}{o:Oper}{d:Option Nat}{R:Rec}{Ω:cK}{r:AV×St}
def Sp.ew(σ:Sp)(g:Nat):Sp:={σ with ow:=fun b=>if b=g then none else σ.ow b,I:=fun b=>σ.I b∨b=g}
theorem an.Om{g:Nat}{L:dk}(h:an C st a w σ)(hg:σ.ow g=some L)(hi:Idle C st (some L)):an C st a w (σ.ew g):=by
 refine h.FC (L:=some L) ⟨fun b l hb hl=>⟨rfl,?_⟩,fun _ _=>rfl,fun _ h=>.inl h,rfl,Nat.le_refl _,fun b l hb=>?_,fun b hb=>?_⟩ hi
 ·have:b≠g:=fun e=>hl (by subst e;rw [←hb,hg])
  simp only [Sp.ew,if_neg this,hb]
 ·simp only [Sp.ew] at hb
  split at hb
  ·cases hb
  ·exact h.own b l hb
 ·rcases hb with hb | rfl
  ·obtain ⟨h1,h2⟩:=h.bH b hb
   refine ⟨h1,?_⟩
   simp only [Sp.ew,h2];split<;>rfl
  ·exact ⟨h.own _ _ hg,by simp [Sp.ew]⟩
theorem cm.ew{g:Nat}(hW:C.W g):cm C w σ w (σ.ew g):=
 ⟨Nat.le_refl _,fun _ _ _=>rfl,fun _ h=>.inl h,fun _ _=>rfl,fun b hb=>hb.elim .inl fun e=>.inr (by rw [e];exact hW),fun _ _=>rfl,fun b _ hb=>if_neg (fun e=>hb (by rw [e];exact hW)),rfl,rfl⟩
theorem dZ.bH{P:Program}{W:Nat→Prop}{L:dk}{wp:Prop}{t:TypeId}{es:List AV}{g cap lo len:Nat}{cs:Array Value}{I:Nat→Prop}(hR:dZ P W w σ L wp t es g cap cs)(hI:∀ b,σ.I b→I b)(hg:I g)
  (hle:lo+len≤es.length):VR w I σ.κ (.l t ((es.drop lo).take len)) (.slice (some ⟨g,lo*P.cellsOf t,none⟩) len (cap - lo)):=by
 have hm:∀ e∈(es.drop lo).take len,e∈es:=fun e he=>List.mem_of_mem_drop (List.mem_of_mem_take he)
 have hlen:((es.drop lo).take len).length=len:=by simp;omega
 have hec:=hR.ecap
 have:=VR.l (w:=w) (I:=I) (κ:=σ.κ) t ((es.drop lo).take len) g (lo*P.cellsOf t) (cap - lo) cs t (0,0) (P.cellsOf t) hg hR.hh (fun _=>⟨fun _=>⟨rfl,rfl⟩,fun h=>absurd hR.base (Nat.not_le_of_lt h)⟩) hR.pos (fun e he=>hR.nc e (hm e he))
  (by rw [hlen,hR.size,←Nat.add_mul];exact Nat.mul_le_mul_right _ (by omega)) (fun e he=>hR.pure e (hm e he)) (fun e he=>hR.one e (hm e he)) (by omega) (by have:=hR.max;omega) (fun j e m c hj hq=>by
   rw [List.getElem?_take] at hj
   split at hj
   ·rw [List.getElem?_drop] at hj
    have:=hR.cell _ e m c hj hq
    rw [Nat.add_mul] at this
    exact this.vL hI (fun _ _=>rfl) (ib (hR.pure e (List.mem_of_getElem? hj)) c (List.mem_of_getElem? hq))
   ·cases hj)
 rwa [hlen] at this
theorem dZ.Nh{P:Program}{W:Nat→Prop}{L:dk}{wp:Prop}{t:TypeId}{es:List AV}{g cap:Nat}{cs:Array Value}{I:Nat→Prop}(hR:dZ P W w σ L wp t es g cap cs)(hI:∀ b,σ.I b→I b)(hg:I g) :
  VR w I σ.κ (.l t es) (.slice (some ⟨g,0,none⟩) es.length cap):=by
 have:=hR.bH hI hg (lo:=0) (len:=es.length) (by omega)
 simpa using this
theorem an.freeze{L:dk}{t:TypeId}{es:List AV}{v:Value}(h:an C st a w σ)(ho:OwnAt C.P C.W w σ L True t es v)(hi:Idle C st (some L)) :
  ∃ σ',cm C w σ w σ'∧an C st a w σ'∧VR w σ'.I σ'.κ (.l t es) v∧σ'.κ=σ.κ:=by
 rcases ho with ⟨rfl,rfl⟩ | ⟨g,cap,cs,rfl,hR⟩
 ·exact ⟨σ,.refl _ _ _,h,.lnil _ _ _,rfl⟩
 ·exact ⟨_,.ew (hR.wr trivial),h.Om hR.ow hi,hR.Nh (I:=(σ.ew g).I) (fun _ h=>.inl h) (.inr rfl),rfl⟩
theorem an.Aq{st':St}(h:an C st a w σ)(hfr:∀ d,ax st'.fr d= .u∨ax st'.fr d=ax st.fr d)(hbx:∀ k cs,st'.box C.E.dp k=some cs→st.box C.E.dp k=some cs)
  (hhp:∀ k cs,k.dp≠C.E.dp→st'.hp k=some cs→st.hp k=some cs):an C st' a w σ:=by
 have h1:an C {st with hp:=st'.hp} a w σ→an C st' a w σ:=fun h1=>h1.forget hfr (fun k cs hk=>by
  by_cases hd:k.dp=C.E.dp
  ·have:=hbx k cs hk
   simpa [St.box,hd] using this
  ·simpa [St.box,hd] using hk) rfl
 refine h1 ⟨h.size,h.defers,fun d=>(h.fr d).zH fun pl _ ⟨r,hr⟩=>?_,fun k cs hk=>?_,fun k cs hk hc=>h.hpd k cs hk (hhp k cs hk hc),h.own,h.bH,h.new,h.lay⟩
 ·refine ⟨?_,rfl⟩
  rw [hr]
  cases pl with
  | s d'=>exact hr.symm
  | c k off=>
   by_cases hd:k.dp=C.E.dp
   ·simpa [St.rowAt,St.box,hd] using hr.symm
   ·simp only [St.rowAt,St.box,if_neg hd] at hr ⊢
    cases hc:st'.hp k with
    | none=>simp [hc] at hr
    | some cs=>
     rw [hhp k cs hd hc]
     simpa [hc] using hr.symm
 ·by_cases hd:k.dp=C.E.dp
  ·exact h.bx k cs (by simpa [St.box,hd] using hk)
  ·simp only [St.box,if_neg hd] at hk
   exact h.bx k cs (by simp only [St.box,if_neg hd];exact hhp k cs hd hk)
theorem yi(fr:List (Nat×AV))(ks:List Nat)(d:Nat):ax (iS fr ks) d= .u∨ax (iS fr ks) d=ax fr d:=by
 induction ks with
 | nil=>exact .inl rfl
 | cons k ks ih=>
  simp only [iS,List.map_cons,ax]
  split
  ·rename_i e;subst e;exact .inr rfl
  ·exact ih
theorem cA{bx:List (Nat×List AV)}{ks:List Nat}{d:Nat}{cs:List AV}(h:aC (cB bx ks) d=some cs):aC bx d=some cs:=by
 induction ks with
 | nil=>simp [cB,aC] at h
 | cons k ks ih=>
  simp only [cB] at h
  split at h
  ·rename_i cs' hk
   simp only [aC] at h
   split at h
   ·rename_i e;subst e;rw [hk];exact h
   ·exact ih h
  ·exact ih h
theorem an.bw(h:an C st a w σ)(kf kb:List Nat):an C (st.bw kf kb) a w σ:=
 h.Aq (yi st.fr kf) (fun k cs hk=>by
  by_cases hd:k.dp=C.E.dp
  ·simp only [St.box,St.bw,hd,if_true] at hk ⊢
   exact cA hk
  ·simp only [St.box,St.bw,if_neg hd] at hk ⊢
   exact hk) (fun _ _ _ h=>h)
theorem an.bT{d:Nat}{x:AV}(h:an C st a w σ)(hx:SR C w σ st a d x (a.tmps.getD d undef))(hb:∀ t es,x= .o t es→∀ d',(ax st.fr d').bO (.s d)=false)(hd:d<C.nt):an C (st.bT d x) a w σ:=by
 have:=h.put hd hx hb
 have e:a.put (some d) (a.tmps.getD d undef)=a:=by
  have hd':d<a.tmps.size:=h.size▸hd
  simp only [Act.put]
  have:a.tmps.setIfInBounds d (a.tmps.getD d undef)=a.tmps:=by
   apply Array.ext_getElem?
   intro i
   rw [Array.getElem?_setIfInBounds]
   split
   ·rename_i e;subst e;simp [hd']
   ·rfl
  rw [this]
 rwa [e] at this
theorem ID{d:Nat}{x:AV}{v:Value}(hd:C.nt≤d)(h:an C st a w σ)(hx:ax st.fr d=x)(hv:a.tmps.getD d undef=v):v=undef:=by
 rw [←hv]
 have:¬d<a.tmps.size:=by rw [h.size];omega
 simp [this]
theorem Pm{d:Nat}{t:TypeId}{es:List AV}(h:an C st a w σ)(hx:ax st.fr d= .o t es):d<C.nt:=by
 rcases Nat.lt_or_ge d C.nt with hd | hd
 ·exact hd
 ·have:=h.fr d
  rw [hx,ID hd h rfl rfl] at this
  rcases this with ⟨_,h2⟩ | ⟨_,_,_,h2,_⟩<;>cases h2
theorem G2{d:Nat}{x:AV}{v:Value}(h:an C st a w σ)(hv:a.tmps.getD d undef=v)(hne:v≠undef):d<C.nt:=by
 rcases Nat.lt_or_ge d C.nt with hd | hd
 ·exact hd
 ·exact absurd (by rw [←hv];exact ID (x:=ax st.fr d) hd h rfl rfl) hne
theorem La{k:Key}{off:Nat}{c:AV}{v:Value}(hc:c.pure=true)(h:CR C w σ k off c v):VR w σ.I σ.κ c v:=by
 cases c<;>first | exact h | cases hc
theorem an.Da{k:Key}{cs:List AV}{off:Nat}{x:AV}(h:an C st a w σ)(hb:st.box C.E.dp k=some cs)(hno:∀ t es,cs[off]? ≠some (.o t es))(hx:x.one=true)
  (hdeep:k.dp≠C.E.dp→x.deep k.dp=true) (hbor:∀ d,(ax st.fr d).bO (.c k off)=false)
  (hv:∀ vs T,w.heap[σ.κ k]? =some (.cells vs T (0,0))→CR C w σ k off x (vs.getD off undef))
  (hzt:∀ t kk u,x= .bp t kk u→∀ vs T,w.heap[σ.κ k]? =some (.cells vs T (0,0))→t=T∧vs.size=cs.length:=by intro _ _ _ e;cases e):an C (st.aX C.E.dp k (cs.set off x)) a w σ:=by
 have hbox:=fun k'=>kX (cs':=cs.set off x) hb k'
 obtain ⟨vs,T,hB⟩:=h.bx k cs hb
 refine ⟨h.size,h.defers,fun d=>?_,fun k' cs' hk=>?_,fun k' cs' hk hc'=>?_,h.own,h.bH,h.new,h.lay⟩
 ·rw [lZ]
  refine (h.fr d).zH fun pl hpl ⟨r,hr⟩=>⟨?_,rfl⟩
  rw [hr]
  cases pl with
  | s d'=>rw [oF] at hr;exact hr.symm
  | c k' off'=>
   simp only [St.rowAt,hbox] at hr ⊢
   by_cases hk:k'=k
   ·subst hk
    by_cases ho:off=off'
    ·subst ho
     rw [hbor d] at hpl;cases hpl
    ·simp only [if_true,List.getElem?_set,if_neg ho] at hr
     simp only [hb];exact hr.symm
   ·simp only [if_neg hk] at hr
    exact hr.symm
 ·rw [hbox] at hk
  by_cases hkk:k'=k
  ·subst hkk
   simp only [if_true] at hk
   obtain rfl:=Option.some.inj hk
   refine ⟨vs,T,hB.hh,by simpa using hB.size,hB.ow,hB.wr,fun c hm=>?_,fun i c hi=>?_,fun t kk u ht=>(List.mem_or_eq_of_mem_set ht).elim (fun hm=>by simpa using hB.ty t kk u hm) (fun e=>by simpa using hzt t kk u e.symm vs T hB.hh),hB.kb⟩
   ·rcases List.mem_or_eq_of_mem_set hm with hm | rfl
    ·exact hB.one c hm
    ·exact .inl hx
   ·rw [List.getElem?_set] at hi
    split at hi
    ·rename_i e
     split at hi
     ·obtain rfl:=Option.some.inj hi
      subst e
      exact hv vs T hB.hh
     ·cases hi
    ·exact hB.cell i c hi
  ·simp only [if_neg hkk] at hk
   exact h.bx k' cs' hk
 ·by_cases hkd:k.dp=C.E.dp
  ·simp only [St.aX,hkd,if_true] at hc'
   exact h.hpd k' cs' hk hc'
  ·simp only [St.aX,if_neg hkd,ad] at hc'
   split at hc'
   ·rename_i hkk
    subst hkk
    obtain rfl:=Option.some.inj hc'
    have hold:=h.hpd k' cs hk (by simpa [St.box,hkd] using hb)
    refine ⟨hold.1,fun c hm=>?_⟩
    rcases List.mem_or_eq_of_mem_set hm with hm | rfl
    ·exact hold.2 c hm
    ·exact hdeep hkd
   ·exact h.hpd k' cs' hk hc'
theorem set_set(cs:List AV)(off:Nat)(x y:AV):(cs.set off x).set off y=cs.set off y:=by
 apply List.ext_getElem?
 intro i
 simp only [List.getElem?_set,List.length_set]
 split<;>rfl
theorem EU(bx:List (Nat×List AV))(d:Nat)(x y:List AV):iQ (iQ bx d x) d y=iQ bx d y:=by
 induction bx with
 | nil=>rfl
 | cons z bx ih=>
  obtain ⟨k,c⟩:=z
  simp only [iQ]
  split
  ·rename_i e;subst e;simp [iQ]
  ·rename_i hne;simp only [iQ,if_neg hne,ih]
theorem Ft(dp:Nat)(st:St)(k:Key)(x y:List AV):(st.aX dp k x).aX dp k y=st.aX dp k y:=by
 unfold St.aX
 split
 ·simp only [EU]
 ·congr 1
  funext k'
  simp only [ad]
  split<;>rfl
theorem Er{k:Key}{off:Nat}(h:k.dp=C.E.dp):(Pl.c k off).fQ C.E=true:=by simp [Pl.fQ,h]
def dk.YW:dk→Nat
 | .box k=>k.dp
 | .rowS dp _=>dp
 | .rowC k _=>k.dp
 | .grp dp _=>dp
 | .mark dp=>dp
theorem an.On{d:Nat}{cs:List AV}{vs:Array Value}{T:TypeId}{g:Nat}{ow':Nat→Option dk}(h:an C st a w σ)(how:∀ b l,σ.ow b=some l→l.YW≤C.E.dp→ow' b=some l)(hown:∀ b l,ow' b=some l→b<w.heap.size)(himm:∀ b,σ.I b→ow' b=none)
  (hh:w.heap[g]? =some (.cells vs T (0,0))) (hkb:(1000000≤d→T=(d - 1000000) / 1000)∧bJ.n0≤g) (hsz:cs.length≤vs.size) (hg:ow' g=some (.box ⟨C.E.dp,d⟩)) (hW:C.W g) (h1:∀ c∈cs,c.one=true∨c= .u)
  (hcell:∀ (off:Nat)(c:AV),cs[off]? =some c→match c with
   | .o t es=>OwnAt C.P C.W w ⟨σ.κ,ow',σ.I⟩ (.rowC ⟨C.E.dp,d⟩ off) True t es (vs.getD off undef)
   | c=>c.pure=true∧VR w σ.I σ.κ c (vs.getD off undef))
  (hfr:∀ d',(ax st.fr d').aI ⟨C.E.dp,d⟩=true) (hbx:∀ d' cs',aC st.bx d'=some cs'→∀ c∈cs',c.aI ⟨C.E.dp,d⟩=true) :
  an C {st with bx:=(d,cs)::st.bx} a w ⟨fun k=>if k=⟨C.E.dp,d⟩ then g else σ.κ k,ow',σ.I⟩:=by
 have hhp:=Ao h d
 have hkap:∀ k,k≠⟨C.E.dp,d⟩→(if k=⟨C.E.dp,d⟩ then g else σ.κ k)=σ.κ k:=fun k hk=>if_neg hk
 have hnk:∀ (x:AV),x.aI ⟨C.E.dp,d⟩=true→∀ k,x.aI k=false→k≠⟨C.E.dp,d⟩:=by
  intro x hx k hk e
  subst e
  rw [hx] at hk;cases hk
 have hrow:∀ pl r,({st with bx:=(d,cs)::st.bx} : St).rowAt C.E.dp pl=some r→(∀ off,pl≠.c ⟨C.E.dp,d⟩ off)→st.rowAt C.E.dp pl=some r:=by
  intro pl r hr hne
  cases pl with
  | s d'=>exact hr
  | c k off=>
   simp only [St.rowAt,St.box] at hr ⊢
   by_cases hk:k.dp=C.E.dp
   ·have hkd:d≠k.d:=fun e=>hne off (by cases k;simp at hk e;subst hk;subst e;rfl)
    simp only [hk,if_true,aC,if_neg hkd] at hr ⊢
    exact hr
   ·simp only [if_neg hk] at hr ⊢
    exact hr
 have hmk:Marks C a.defers w ⟨fun k=>if k=⟨C.E.dp,d⟩ then g else σ.κ k,ow',σ.I⟩:=by
  obtain ⟨Ds,h0,h1,h2⟩:=h.defers
  exact ⟨Ds,h0,h1,fun D hD=>⟨how D _ (h2 D hD).1 (Nat.le_refl _),(h2 D hD).2⟩⟩
 refine ⟨h.size,hmk,fun d'=>?_,fun k cs' hk=>?_,h.hpd,hown,fun b hb=>⟨(h.bH b hb).1,himm b hb⟩,h.new,h.lay⟩
 ·have hx:=h.fr d'
  have hn:=hfr d'
  have hpv:∀ pl,(∀ off,pl≠.c ⟨C.E.dp,d⟩ off)→dU w ⟨fun k=>if k=⟨C.E.dp,d⟩ then g else σ.κ k,ow',σ.I⟩ a pl=dU w σ a pl:=by
   intro pl hne
   cases pl with
   | s d''=>rfl
   | c k off=>
    have:k≠⟨C.E.dp,d⟩:=fun e=>hne off (by rw [e])
    simp only [dU,if_neg this]
  generalize ax st.fr d'=x at hx hn ⊢
  show SR _ _ _ _ _ _ x _
  cases x with
  | o t es=>exact OwnAt.bw (C:=C) hx (fun g hg=>⟨rfl,how _ _ hg (Nat.le_refl _)⟩) (fun _ h=>h) (fun _ _=>rfl)
  | r pl=>
   have hne:∀ off,pl≠.c ⟨C.E.dp,d⟩ off:=fun off e=>by subst e;simp [AV.aI] at hn
   intro hsm
   obtain ⟨r,hr⟩:=Option.isSome_iff_exists.1 hsm
   rw [hpv pl hne]
   exact hx (by rw [hrow pl r hr hne];rfl)
  | v pl lo len=>
   have hne:∀ off,pl≠.c ⟨C.E.dp,d⟩ off:=fun off e=>by subst e;simp [AV.aI] at hn
   intro t es ht hll
   rw [hpv pl hne]
   exact hx t es (hrow pl _ ht hne) hll
  | q pl i sz off=>
   have hne:∀ off,pl≠.c ⟨C.E.dp,d⟩ off:=fun off e=>by subst e;simp [AV.aI] at hn
   intro t es ht hll
   rw [hpv pl hne]
   exact hx t es (hrow pl _ ht hne) hll
  | w g t x=>exact m3.bw hx (fun b hb=>⟨rfl,how _ _ hb (Nat.le_refl _)⟩) fun _ h=>h
  | ag cs' rs=>exact sW.to hx (fun c hc v hv=>hv.mono (fun _ h=>h) (fun _ _=>rfl) fun k hk=>hkap k (hnk c (gl (by simpa [AV.aI] using hn) c hc) k hk)) (fun _ _ hr=>⟨hr,rfl⟩)
  | _=>exact VR.mono hx (fun _ h=>h) (fun _ _=>rfl) fun k hk=>hkap k (hnk _ hn k hk)
 ·by_cases hK:k=⟨C.E.dp,d⟩
  ·subst hK
   simp only [St.box,if_true,aC] at hk
   obtain rfl:=Option.some.inj hk
   refine ⟨vs,T,by simp only [if_true];exact hh,hsz,by simp only [if_true];exact hg,fun _=>by simp only [if_true];exact hW,h1,fun off c hc=>?_,fun t _ _ ht=>(by obtain ⟨m,hm⟩:=List.mem_iff_getElem?.1 ht;cases (hcell m _ hm).1),by simp only [if_true];exact hkb⟩
   have hv:=hcell off c hc
   by_cases ho:∃ t es,c= .o t es
   ·obtain ⟨t,es,rfl⟩:=ho
    rcases hv with hv | ⟨g',cap,cs',hv,hr⟩
    ·exact .inl hv
    ·exact .inr ⟨g',cap,cs',hv,⟨hr.ow,fun _=>hr.wr trivial,hr.hh,hr.pos,hr.nc,hr.ecap,hr.max,hr.size,hr.pure,hr.one,fun j e m c he hc=>(hr.cell j e m c he hc).vL (fun _ h=>h) (fun _ _=>rfl) (ib (hr.pure e (List.mem_of_getElem? he)) c (List.mem_of_getElem? hc)),hr.base⟩⟩
   ·split at hv
    ·exact absurd ⟨_,_,rfl⟩ ho
    ·exact K3 (hv.2.vL (fun _ h=>h) (fun _ _=>rfl) hv.1)
  ·have hk':st.box C.E.dp k=some cs':=by
    simp only [St.box] at hk ⊢
    by_cases hkd:k.dp=C.E.dp
    ·have hne:d≠k.d:=fun e=>hK (by cases k;simp at hkd e;subst hkd;subst e;rfl)
     simpa only [hkd,if_true,aC,if_neg hne] using hk
    ·simpa only [if_neg hkd] using hk
   obtain ⟨vs',T',hB⟩:=h.bx k cs' hk'
   have hkdp:k.dp≤C.E.dp:=by
    by_cases hkd:k.dp=C.E.dp
    ·omega
    ·simp only [St.box,if_neg hkd] at hk'
     exact Nat.le_of_lt (h.hpd k cs' hkd hk').1
   have hmem:∀ c∈cs',c.aI ⟨C.E.dp,d⟩=true:=by
    by_cases hkd:k.dp=C.E.dp
    ·simp only [St.box,hkd,if_true] at hk'
     exact hbx _ _ hk'
    ·simp only [St.box,if_neg hkd] at hk'
     exact hhp k cs' hkd hk'
   refine ⟨vs',T',by simp only [if_neg hK];exact hB.hh,hB.size,by simp only [if_neg hK];exact how _ _ hB.ow hkdp,fun hw=>by simp only [if_neg hK];exact hB.wr hw,hB.one,fun off c hc=>?_,hB.ty,by simp only [if_neg hK];exact hB.kb⟩
   exact CR.bw (C:=C) (hB.cell off c hc) (fun g hg=>⟨rfl,how _ _ hg hkdp⟩) (fun _ h=>h) (fun _ _=>rfl) (fun k hk=>hkap k (hnk c (hmem c (List.mem_of_getElem? hc)) k hk)) fun b g hg=>⟨rfl,how _ _ hg (Nat.le_refl _)⟩
theorem Db(sz:Nat):∀ (n:Nat)(cs:List AV),(chunks sz n cs).length=n
 | 0,_=>rfl
 | n+1,cs=>by simp [chunks,Db sz n]
theorem qS(sz:Nat)(hsz:0<sz):∀ {n:Nat}{cs:List AV}{j:Nat}{e:AV},(∀ c∈cs,c.one=true)→n*sz≤cs.length→(chunks sz n cs)[j]? =some e→e.cl=(cs.drop (j*sz)).take sz∧(j+1)*sz≤cs.length∧(AV.bS cs=true→e.pure=true)
 | 0,cs,j,e,_,_,h=>by simp [chunks] at h
 | n+1,cs,0,e,h1,hl,h=>by
  simp only [chunks,List.getElem?_cons_zero,Option.some.injEq] at h
  have hl':sz≤cs.length:=by rw [Nat.add_mul] at hl;omega
  refine ⟨?_,by omega,fun hp=>?_⟩
  ·rw [Nat.zero_mul,List.drop_zero,←h]
   split
   ·rename_i e1
    subst e1
    cases cs with
    | nil=>simp at hl'
    | cons c cs=>
     have hc:=h1 c (by simp)
     cases c<;>first | rfl | (simp [AV.one] at hc)
   ·rfl
  ·rw [←h]
   split
   ·rename_i e1
    subst e1
    cases cs with
    | nil=>simp at hl'
    | cons c cs=>exact fm hp c (by simp)
   ·exact jB fun c hc=>fm hp c (List.mem_of_mem_take hc)
 | n+1,cs,j+1,e,h1,hl,h=>by
  simp only [chunks,List.getElem?_cons_succ] at h
  have hl':n*sz≤(cs.drop sz).length:=by rw [List.length_drop];rw [Nat.add_mul] at hl;omega
  obtain ⟨h2,h3,h4⟩:=qS sz hsz (fun c hc=>h1 c (List.mem_of_mem_drop hc)) hl' h
  rw [List.length_drop] at h3
  have hs:sz≤cs.length:=by rw [Nat.add_mul] at hl;omega
  refine ⟨by rw [h2,List.drop_drop];congr 2;rw [Nat.add_mul];omega,by rw [Nat.add_mul];omega,fun hp=>h4 (jB fun c hc=>fm hp c (List.mem_of_mem_drop hc))⟩
theorem Ni{x:AV}{k:Key}{off:Nat}(h:x.aI k=true):x.bO (.c k off)=false:=by
 cases x with
 | r pl=>cases pl<;>simp [AV.bO,AV.aI] at h ⊢;exact fun e=>absurd e h
 | v pl lo len=>cases pl<;>simp [AV.bO,AV.aI] at h ⊢;exact fun e=>absurd e h
 | q pl i sz o=>cases pl<;>simp [AV.bO,AV.aI] at h ⊢;exact fun e=>absurd e h
 | _=>rfl
theorem an.vu{dd:Nat} : ∀ (rs:List (Nat×Nat)){st st':St}{σ:Sp},an C st a w σ→A.vu dd st rs=some st'→(∀ d off,(ax st.fr d).bO (.c ⟨C.E.dp,dd⟩ off)=false)→
  (∀ vs T,w.heap[σ.κ ⟨C.E.dp,dd⟩]? =some (.cells vs T (0,0))→∀ q∈rs,(st.rowAt C.E.dp (.s q.2)).isSome=true→vs.getD q.1 undef=a.tmps.getD q.2 undef)→
  ∃ σ',cm C w σ w σ'∧an C st' a w σ'∧σ'.κ=σ.κ
 | [],st,st',σ,h,he,_,_=>by
  obtain rfl:=Option.some.inj he
  exact ⟨σ,.refl _ _ _,h,rfl⟩
 | (off,m)::rs,st,st',σ,h,he,hbor,hv=>by
  unfold A.vu at he
  split at he
  ·rename_i t es hx
   obtain ⟨cs,hb,he1⟩:=Option.bind_eq_some_iff.1 he
   split at he1
   ·rename_i hco
    have hrow:st.rowAt C.E.dp (.s m)=some (t,es):=by simp only [St.rowAt,hx]
    have ho:OwnAt C.P C.W w σ (.rowS C.E.dp m) True t es (a.tmps.getD m undef):=by
     have:=h.fr m
     rw [hx] at this
     exact this
    obtain ⟨h1,hi⟩:=h.C9 (pl:=.s m) (st':=st.bT m .u) rfl
    have hb1:(st.bT m .u).box C.E.dp ⟨C.E.dp,dd⟩=some cs:=by simp only [St.box,if_true];exact hb
    have hset:(st.bT m .u).aX C.E.dp ⟨C.E.dp,dd⟩ (cs.set off (.o t es))={(st.bT m .u) with bx:=iQ st.bx dd (cs.set off (.o t es))}:=by simp [St.aX,St.bT]
    have hbor1:∀ d off',(ax (st.bT m .u).fr d).bO (.c ⟨C.E.dp,dd⟩ off')=false:=fun d off'=>by
     simp only [St.bT,kS]
     split
     ·rfl
     ·exact hbor d off'
    have hrest:∀ {σ1:Sp},cm C w σ w σ1→σ1.κ=σ.κ→an C ((st.bT m .u).aX C.E.dp ⟨C.E.dp,dd⟩ (cs.set off (.o t es))) a w σ1→∃ σ',cm C w σ w σ'∧an C st' a w σ'∧σ'.κ=σ.κ:=by
     intro σ1 hs1 hk1 hc1
     rw [hset] at hc1
     obtain ⟨σ',hs2,hc2,hk2⟩:=an.vu rs hc1 he1 hbor1 (fun vs T hh q hq hr=>by
      refine hv vs T (by rw [←hk1];exact hh) q (by simp [hq]) ?_
      simp only [St.rowAt,St.bT,kS] at hr ⊢
      by_cases hm:m=q.2
      ·rw [if_pos hm] at hr;cases hr
      ·rw [if_neg hm] at hr;exact hr)
     exact ⟨σ',hs1.trans hs2,hc2,hk2.trans hk1⟩
    rcases ho with ⟨rfl,hnil⟩ | ⟨g,cap,cs',hvv,hR⟩
    ·refine hrest (.refl _ _ _) rfl (h1.Da hb1 (fun t' es' e=>by rw [hco] at e;cases e) rfl (fun hne=>absurd rfl hne) (fun d=>hbor1 d off) (fun vs T hh=>?_))
     rw [hv vs T hh (off,m) (by simp) (by rw [hrow];rfl)]
     exact .inl ⟨rfl,hnil⟩
    ·have h2:=h1.relabel (M:=.rowC ⟨C.E.dp,dd⟩ off) hR.ow hi
     have hWg:C.W g:=hR.wr trivial
     refine hrest (σ1:=σ.add g (some (.rowC ⟨C.E.dp,dd⟩ off))) ⟨Nat.le_refl _,fun _ _ _=>rfl,fun _ h=>h,fun _ _=>rfl,fun _ h=>.inl h,fun _ _=>rfl,fun b _ hW=>?_,rfl,rfl⟩ rfl
      (h2.Da hb1 (fun t' es' e=>by rw [hco] at e;cases e) rfl (fun hne=>absurd rfl hne) (fun d=>hbor1 d off) (fun vs T hh=>?_))
     ·have:b≠g:=fun e=>hW (by rw [e];exact hWg)
      simp only [Sp.add,if_neg this]
     ·rw [hv vs T hh (off,m) (by simp) (by rw [hrow];rfl)]
      exact .inr ⟨g,cap,cs',hvv,by simp [Sp.add],fun _=>hWg,hR.hh,hR.pos,hR.nc,hR.ecap,hR.max,hR.size,hR.pure,hR.one,hR.cell,hR.base⟩
   ·cases he1
  ·cases he
theorem Pn{x:bj}(h:an C st a w σ)(hl:bk C.P (.bxg x) o.op=true)(he:execOp R Ω C.E st d (.bxg x)=some r) :
  cY C o d a w σ r.2 r.1:=by
 simp only [bk] at hl
 split at hl
 ·rename_i t y hop
  simp only [execOp] at he
  obtain ⟨dd,hdd,he⟩:=Option.bind_eq_some_iff.1 he
  split at he
  ·rename_i cs rs hx
   split at he
   ·rename_i hc
    simp only [pH,Bool.and_eq_true] at hc
    obtain ⟨⟨hcp,hdp⟩,⟨hno,hfr⟩,hbx⟩:=hc
    have hd:dd<1000000:=by simp only [lg,Bool.and_eq_true,decide_eq_true_eq] at hno;exact hno.2
    obtain ⟨st',hst',rfl⟩:=Option.map_eq_some_iff.1 he
    cases x with
    | c z=>have:=nU hl;simp only [St.ev] at hx;rw [hx] at this;cases this
    | t n=>
     simp only [St.ev] at hx
     have hs:=h.slot hl
     rw [hx] at hs
     obtain ⟨vs,hv,hlen,hone,hcell,hrow⟩:=hs
     have hn:AV.aJ ⟨C.E.dp,dd⟩ cs=true:=by
      have:=iF (p:=fun y=>y.aI ⟨C.E.dp,dd⟩) rfl _ hfr n
      rw [hx] at this
      simpa [AV.aI] using this
     have hca:CA w σ.I σ.κ cs vs:=⟨hlen,hone,hcell⟩
     obtain ⟨σ',hs1,hco,hk,hI⟩:=h.GW (T:=t) hd hca (fun c hm=>gl hn c hm) (fun c hm t es e=>by
      have:=List.all_eq_true.1 hcp c hm
      rw [e] at this
      simp [AV.copy,Ib] at this) (iF rfl _ hfr) (fun d' cs' hb c hm=>gl (jZ _ hbx d' cs' hb) c hm) (Ao h dd)
     obtain ⟨σ2,hs2,hc2,hk2⟩:=an.vu rs hco hst' (fun d' off=>Ni (iF (p:=fun y=>y.aI ⟨C.E.dp,dd⟩) rfl _ hfr d')) (fun vs' T' hh q hq hr=>by
      rw [hk,heap_alloc_new] at hh
      simp only [Option.some.injEq,Obj.cells.injEq] at hh
      rw [←hh.1]
      exact hrow q hq hr)
     refine .gY (cv:=.pointer (some ⟨w.heap.size,0,none⟩)) ?_ ⟨hs1.trans hs2,hc2,fun _ _=>kV (C8 (by rw [hk2];exact hk)),fun _ _ _ _ e=>by cases e⟩
     unfold Go.execOp
     simp [hop,Instr.box,newVar,newRow,hv,Value.cells]
   ·cases he
  ·cases he
 ·cases hl
theorem an.TG{p:vt}{st':St}(h:an C st a w σ)(he:gd C.E st p=some st'):∃ σ',cm C w σ w σ'∧an C st' a w σ':=by
 cases p with
 | own d t=>
  simp only [gd] at he
  split at he
  ·rename_i hx
   obtain rfl:=Option.some.inj he
   have hs:=h.fr d
   rw [hx] at hs
   have hv:=VR.An hs
   refine ⟨σ,.refl _ _ _,(h.bm (.s d)).bT (.inl ⟨rfl,hv⟩) (fun _ _ _ d'=>lX _ _ _) (G2 (x:=.n) h hv (by simp [undef]))⟩
  ·obtain rfl:=Option.some.inj he
   exact ⟨σ,.refl _ _ _,h⟩
  ·cases he
 | fz d=>
  simp only [gd] at he
  split at he
  ·rename_i t es hx
   obtain rfl:=Option.some.inj he
   have hs:=h.fr d
   rw [hx] at hs
   obtain ⟨σ',hst,hc,hv,_⟩:=(h.GZ d).freeze (L:=.rowS C.E.dp d) hs (sI fun t es=>by rw [ju,if_pos rfl];simp)
   have:=hc.bT (d:=d) (x:=.l t es) hv (fun _ _ e=>by cases e) (Pm h hx)
   refine ⟨σ',hst,this.Aq (fun d'=>.inr ?_) (fun _ _ h=>h) (fun _ _ _ h=>h)⟩
   simp only [ju];split<;>rfl
  ·cases he
 | ownC d off t=>
  simp only [gd] at he
  split at he
  ·rename_i k o hx
   split at he
   ·rename_i hm
    obtain ⟨cs,hb,he1⟩:=Option.bind_eq_some_iff.1 he
    clear he
    split at he1
    ·rename_i hcn
     obtain rfl:=Option.some.inj he1
     refine ⟨σ,.refl _ _ _,(h.bm (.c k (o+off))).Da hb (fun _ _ e=>by rw [hcn] at e;cases e) rfl (fun _=>rfl) (fun d'=>lX _ _ _) fun vs T hh=>?_⟩
     obtain ⟨vs',T',hB⟩:=h.bx k cs hb
     have:=hB.cell _ _ hcn
     rw [hB.hh] at hh
     simp only [Option.some.injEq,Obj.cells.injEq] at hh
     rw [←hh.1]
     exact .inl ⟨rfl,VR.An this⟩
    ·obtain rfl:=Option.some.inj he1
     exact ⟨σ,.refl _ _ _,h⟩
    ·cases he1
   ·cases he
  ·cases he
 | fzC d off=>
  simp only [gd] at he
  split at he
  ·rename_i k o hx
   split at he
   ·rename_i hm
    obtain ⟨cs,hb,he1⟩:=Option.bind_eq_some_iff.1 he
    clear he
    split at he1
    ·rename_i t es hco
     obtain rfl:=Option.some.inj he1
     obtain ⟨vs,T,hB⟩:=h.bx k cs hb
     have ho:OwnAt C.P C.W w σ (.rowC k (o+off)) ((Pl.c k (o+off)).fQ C.E=true) t es (vs.getD (o+off) undef):=hB.cell _ _ hco
     obtain ⟨h1,hi⟩:=h.C9 (pl:=.c k (o+off)) (st':=st.aX C.E.dp k (cs.set (o+off) .u)) (by simp [St.putAt,hb])
     obtain ⟨σ',hst,hc,hv,hkap⟩:=h1.freeze (ho.zI fun _=>hm) hi
     have hbx1:(st.aX C.E.dp k (cs.set (o+off) .u)).box C.E.dp k=some (cs.set (o+off) .u):=by rw [kX hb,if_pos rfl]
     have hcell:(cs.set (o+off) AV.u)[o+off]? =some .u:=by
      rw [List.getElem?_set];simp [bZ hco]
     have h2:=(hc.bm (.c k (o+off))).Da (x:=.l t es) (off:=o+off) (cs:=cs.set (o+off) .u) hbx1 (fun _ _ e=>by rw [hcell] at e;cases e) rfl (fun _=>rfl) (fun d'=>lX _ _ _) (fun vs' T' hh=>by
      rw [hkap,hB.hh] at hh
      simp only [Option.some.injEq,Obj.cells.injEq] at hh
      rw [←hh.1]
      exact hv)
     rw [set_set] at h2
     refine ⟨σ',hst,?_⟩
     have e1:((st.aX C.E.dp k (cs.set (o+off) .u)).bm (.c k (o+off))).aX C.E.dp k (cs.set (o+off) (.l t es))=
       (st.aX C.E.dp k (cs.set (o+off) (.l t es))).bm (.c k (o+off)):=by
      have:=Ft C.E.dp st k (cs.set (o+off) .u) (cs.set (o+off) (.l t es))
      unfold St.bm
      unfold St.aX at this ⊢
      split
      ·rename_i hd;simp only [if_pos hd,EU]
      ·rename_i hd
       simp only [if_neg hd]
       congr 1
       funext k'
       simp only [ad]
       split<;>rfl
     rw [e1] at h2
     refine ⟨h2.size,h2.defers,fun d'=>?_,h2.bx,h2.hpd,h2.own,h2.bH,h2.new,h2.lay⟩
     have hnr:(st.aX C.E.dp k (cs.set (o+off) (.l t es))).rowAt C.E.dp (.c k (o+off))=none:=by
      simp only [St.rowAt,kX hb,if_true,List.getElem?_set,if_pos (bZ hco)]
     by_cases hbb:(ax (st.aX C.E.dp k (cs.set (o+off) (.l t es))).fr d').bO (.c k (o+off))=true
     ·cases hy:ax (st.aX C.E.dp k (cs.set (o+off) (.l t es))).fr d'<;>rw [hy] at hbb<;>simp [AV.bO] at hbb
      ·subst hbb;intro hs;rw [hnr] at hs;cases hs
      ·subst hbb;intro t' es' hs;rw [hnr] at hs;cases hs
      ·subst hbb;intro t' es' hs;rw [hnr] at hs;cases hs
     ·have:=h2.fr d'
      have e2:ax ((st.aX C.E.dp k (cs.set (o+off) (.l t es))).bm (.c k (o+off))).fr d'=ax (st.aX C.E.dp k (cs.set (o+off) (.l t es))).fr d':=by
       simp only [St.bm,kT,if_neg hbb]
      rw [e2] at this
      exact this.zH fun pl _ _=>⟨(HV _ _ _ _).symm,rfl⟩
    ·obtain rfl:=Option.some.inj he1
     exact ⟨σ,.refl _ _ _,h⟩
    ·obtain rfl:=Option.some.inj he1
     exact ⟨σ,.refl _ _ _,h.G1 hb⟩
    ·obtain rfl:=Option.some.inj he1
     exact ⟨σ,.refl _ _ _,h⟩
    ·cases he1
   ·cases he
  ·cases he
 | fzB d agg=>
  simp only [gd] at he
  split at he
  ·rename_i k hx
   split at he
   ·rename_i hkd
    obtain ⟨cs,hb,he1⟩:=Option.bind_eq_some_iff.1 he
    clear he
    split at he1
    ·rename_i hp
     have hb':st.box C.E.dp k=some cs:=by simp [St.box,hkd,hb]
     obtain ⟨vs,T,hB⟩:=h.bx k cs hb'
     have hs:=h.fr d
     rw [hx] at hs
     have hv:=VR.vJ hs
     have hpl:=fm hp
     have hno:∀ c∈cs,∀ t es,c≠.o t es:=fun c hc t es e=>by have:=hpl c hc;rw [e] at this;cases this
     have hone:∀ c∈cs,c.one=true:=fun c hc=>(hB.one c hc).resolve_right fun e=>by have:=hpl c hc;rw [e] at this;cases this
     have h1:an C {st with bx:=st.bx.filter fun y=>y.1 !=k.d} a w σ:=by
      refine h.Aq (fun _=>.inr rfl) (fun k' cs' hk=>?_) (fun _ _ _ h=>h)
      by_cases hd:k'.dp=C.E.dp
      ·simp only [St.box,hd,if_true] at hk ⊢
       have hf:∀ bx:List (Nat×List AV),aC (bx.filter fun y=>y.1 !=k.d) k'.d=some cs'→aC bx k'.d=some cs':=by
        intro bx
        induction bx with
        | nil=>exact id
        | cons z bx ih=>
         intro hz
         simp only [List.filter_cons] at hz
         split at hz
         ·simp only [aC] at hz ⊢
          split
          ·rename_i e;rw [if_pos e] at hz;exact hz
          ·rename_i e;rw [if_neg e] at hz;exact ih hz
         ·rename_i hne
          simp only [aC]
          split
          ·rename_i e
           exfalso
           have h3:z.1=k.d:=by simpa using hne
           have hf2:∀ bx:List (Nat×List AV),aC (bx.filter fun y=>y.1 !=k.d) k.d=none:=by
            intro bx
            induction bx with
            | nil=>rfl
            | cons y bx ih=>
             simp only [List.filter_cons]
             split
             ·rename_i h4
              have:y.1≠k.d:=by simpa using h4
              simp only [aC,if_neg this,ih]
             ·exact ih
           rw [←e,h3,hf2] at hz;cases hz
          ·exact ih hz
       exact hf _ hk
      ·simp only [St.box,if_neg hd] at hk ⊢;exact hk
     have hgone:({st with bx:=st.bx.filter fun y=>y.1 !=k.d} : St).box C.E.dp k=none:=by
      simp only [St.box,hkd,if_true]
      have hf2:∀ bx:List (Nat×List AV),aC (bx.filter fun y=>y.1 !=k.d) k.d=none:=by
       intro bx
       induction bx with
       | nil=>rfl
       | cons y bx ih=>
        simp only [List.filter_cons]
        split
        ·rename_i h4
         have:y.1≠k.d:=by simpa using h4
         simp only [aC,if_neg this,ih]
        ·exact ih
      exact hf2 _
     have hi:Idle C {st with bx:=st.bx.filter fun y=>y.1 !=k.d} (some (.box k)):=
      ⟨fun _ _ _ _=>by simp,fun k' cs' hk e=>(by simp only [Option.some.injEq,dk.box.injEq] at e;subst e;rw [hgone] at hk;cases hk),fun _ _ _ _ _ _ _=>by simp,fun _=>by simp,by simp⟩
     have h2:=h1.Om hB.ow hi
     have hW:C.W (σ.κ k):=hB.wr (Er hkd)
     have hlt:d<C.nt:=G2 (x:=.p k 0) h hv (by simp [undef])
     have hfin:∀ x:AV,x.cl=cs→x.pure=true→(∀ t es,x≠.o t es)→an C {(st.bT d (.e x 0)) with bx:=st.bx.filter fun y=>y.1 !=k.d} a w (σ.ew (σ.κ k)):=by
      intro x hcl hxp _
      refine h2.bT (d:=d) (x:=.e x 0) ?_ (fun _ _ e=>by cases e) hlt
      rw [hv]
      have:=VR.e (w:=w) (I:=(σ.ew (σ.κ k)).I) (κ:=(σ.ew (σ.κ k)).κ) x 0 (σ.κ k) 0 vs T (0,0) (.inr rfl) hB.hh hxp (by unfold AV.nc;rw [hcl];have:=hB.size;omega) (by rw [hcl];exact hone) (fun m c hm=>by
       rw [hcl] at hm
       rw [Nat.zero_add]
       have hcm:=List.mem_of_getElem? hm
       exact (La (hpl c hcm) (hB.cell m c hm)).vL (fun _ h=>.inl h) (fun _ _=>rfl) (hpl c hcm))
      exact this
     split at he1
     ·obtain rfl:=Option.some.inj he1
      exact ⟨_,.ew hW,hfin (.a cs) rfl (jB hpl) (fun _ _ e=>by cases e)⟩
     ·split at he1
      ·rename_i c
       obtain rfl:=Option.some.inj he1
       have hc1:=hone c (by simp)
       have hcl:c.cl=[c]:=by cases c<;>first | rfl | (simp [AV.one] at hc1)
       exact ⟨_,.ew hW,hfin c hcl (hpl c (by simp)) (hno c (by simp))⟩
      ·cases he1
    ·cases he1
   ·cases he
  ·cases he
theorem an.pre:∀ (ps:List vt){st st':St}{σ:Sp},an C st a w σ→s8 C.E st ps=some st'→∃ σ',cm C w σ w σ'∧an C st' a w σ'
 | [],st,st',σ,h,he=>by obtain rfl:=Option.some.inj he;exact ⟨σ,.refl _ _ _,h⟩
 | p::ps,st,st',σ,h,he=>by
  obtain ⟨st1,h1,h2⟩:=Option.bind_eq_some_iff.1 he
  obtain ⟨σ1,hs1,hc1⟩:=h.TG h1
  obtain ⟨σ2,hs2,hc2⟩:=an.pre ps hc1 h2
  exact ⟨σ2,hs1.trans hs2,hc2⟩
end
end Go.Proofs.YtdpjofmmokaobaaGreat.A
