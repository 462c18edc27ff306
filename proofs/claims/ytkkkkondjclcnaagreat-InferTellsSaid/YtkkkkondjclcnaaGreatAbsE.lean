/- append: the model does what the abstract run says. -/
import Derived.Test.YtkkkkondjclcnaaGreatAbsA
set_option linter.all false
namespace Go.Proofs.YtkkkkondjclcnaaGreat.A
open Go
variable [bI]
structure Flat(w:World)(I:Nat→Prop)(κ:Key→Nat)(sz:Nat)(es:List AV)(vs:List Value):Prop where
 len:vs.length=es.length*sz
 nc:∀ e∈es,e.nc=sz
 pure:∀ e∈es,e.pure=true
 one:∀ e∈es,∀ c∈e.cl,c.one=true
 cell:∀ (j:Nat)(e:AV)(m:Nat)(c:AV),es[j]? =some e→e.cl[m]? =some c→VR w I κ c (vs[j*sz+m]?.getD undef)
section
variable {w:World}{I:Nat→Prop}{κ:Key→Nat}{sz:Nat}
theorem AG{e:AV}{j m n:Nat}(hj:j<n)(hm:m<e.cl.length)(he:e.nc=sz):j*sz+m<n*sz:=by
 have:(j+1)*sz≤n*sz:=fk _ hj
 rw [da] at this
 have he':e.cl.length=sz:=he
 omega
theorem Flat.nil:Flat w I κ sz [] []:=⟨by simp,by simp,by simp,by simp,fun j e m c h=>by simp at h⟩
theorem Flat.append{es fs:List AV}{vs us:List Value}(h:Flat w I κ sz es vs)(h':Flat w I κ sz fs us):Flat w I κ sz (es++fs) (vs++us):=by
 refine ⟨by simp [h.len,h'.len,da],fun e he=>?_,fun e he=>?_,fun e he=>?_,fun j e m c hj hm=>?_⟩
 ·rcases bJ.1 he with he | he
  ·exact h.nc e he
  ·exact h'.nc e he
 ·rcases bJ.1 he with he | he
  ·exact h.pure e he
  ·exact h'.pure e he
 ·rcases bJ.1 he with he | he
  ·exact h.one e he
  ·exact h'.one e he
 ·have hml:=cu hm
  rw [kh] at hj
  split at hj
  ·rename_i hlt
   have:=AG hlt hml (h.nc e (aP hj))
   rw [kh,aa (by rw [h.len];exact this)]
   exact h.cell j e m c hj hm
  ·rename_i hge
   have hle:es.length*sz≤j*sz:=fk _ (by omega)
   rw [kh,ab (by rw [h.len];omega),h.len]
   have:=h'.cell (j - es.length) e m c hj hm
   rw [Nat.sub_mul] at this
   rwa [show j*sz+m - es.length*sz=j*sz - es.length*sz+m by omega]
theorem Flat.aby{es:List AV}{vs:List Value}(h:Flat w I κ sz es vs):∀ u∈vs,u.oneCell'=true:=by
 intro u hu
 obtain ⟨i,hi⟩:=dZ.1 hu
 have hil:=cu hi
 rw [h.len] at hil
 have hpos:0<sz:=Nat.pos_of_ne_zero fun e=>by subst e;simp at hil
 have hj:i / sz<es.length:=Nat.div_lt_of_lt_mul (by rw [kl];exact hil)
 have hm:i % sz<sz:=Nat.mod_lt _ hpos
 have he:=bY hj
 have hml:i % sz<(es[i / sz]).cl.length:=by
  have:(es[i / sz]).cl.length=sz:=h.nc _ he
  omega
 have:=h.cell _ _ _ _ (aA hj) (aA hml)
 rw [kl,Nat.div_add_mod,hi] at this
 exact this.II (h.one _ he _ (bY hml))
theorem Flat.FJ{es:List AV}{cs:Array Value}{o:Nat}(hnc:∀ e∈es,e.nc=sz)(hp:∀ e∈es,e.pure=true)(h1:∀ e∈es,∀ c∈e.cl,c.one=true)(hs:o+es.length*sz≤cs.size)
  (hc:∀ (j:Nat)(e:AV)(m:Nat)(c:AV),es[j]? =some e→e.cl[m]? =some c→VR w I κ c (cs.getD (o+j*sz+m) undef)):Flat w I κ sz es ((cs.toList.drop o).take (es.length*sz)):=by
 refine ⟨by simp;omega,hnc,hp,h1,fun j e m c hj hm=>?_⟩
 have:=AG (cu hj) (cu hm) (hnc e (aP hj))
 have hv:=hc j e m c hj hm
 rw [eQ,aa this,gj]
 rw [pX] at hv
 simpa [bA] using hv
theorem BF{g o n:Nat}{cs:Array Value}{T:TypeId}{fz:Nat×Nat}(hh:w.heap[g]? =some (.cells cs T fz)):∀ j u,((cs.toList.drop o).take n)[j]? =some u→w.cell? ((⟨g,o,none⟩:Addr).add j)=some u:=by
 intro j u hj
 rw [add_lit,uX hh]
 rw [eQ] at hj
 split at hj
 ·rw [gj] at hj
  simpa using hj
 ·cases hj
end
section
variable {C:Cx}{st:St}{a:Act}{w:World}{σ:Sp}{o:Oper}{d:Option Nat}{R:Rec}{Ω:dt}{r:AV×St}
theorem eW.flat{L:dL}{wp:Prop}{t:TypeId}{es:List AV}{g cap:Nat}{cs:Array Value}(hR:eW C.P C.W w σ L wp t es g cap cs):Flat w σ.I σ.κ (C.P.cellsOf t) es ((cs.toList.drop 0).take (es.length*C.P.cellsOf t)):=
 .FJ hR.nc hR.pure hR.one (by rw [hR.size,fi];exact fk _ hR.ecap) (fun j e m c hj hm=>by rw [fi];exact hR.cell j e m c hj hm)
theorem Flat.part{sz lo len:Nat}{es:List AV}{vs:List Value}{I:Nat→Prop}{κ:Key→Nat}(h:Flat w I κ sz es vs)(hle:lo+len≤es.length):Flat w I κ sz ((es.drop lo).take len) ((vs.drop (lo*sz)).take (len*sz)):=by
 have hm:∀ e∈(es.drop lo).take len,e∈es:=fun e he=>fj (eC he)
 refine ⟨?_,fun e he=>h.nc e (hm e he),fun e he=>h.pure e (hm e he),fun e he=>h.one e (hm e he),fun j e m c hj hq=>?_⟩
 ·have:(lo+len)*sz≤es.length*sz:=fk _ hle
  rw [da] at this
  have e1:min len (es.length - lo)=len:=by omega
  simp [h.len,e1];omega
 ·rw [eQ] at hj
  split at hj
  ·rename_i hlt
   rw [gj] at hj
   have:=AG hlt (cu hq) (h.nc e (aP hj))
   rw [eQ,aa this,gj]
   have hv:=h.cell _ e m c hj hq
   rwa [da,pX] at hv
  ·cases hj
theorem au.src(h:au C st a w σ){y:Operand}{x:ba}{q:TypeId×List AV}{sz:Nat}{tx e':TypeId}(hk:C.P.underlying tx=some (.slice e'))(hl:bP y x=true)(he:st.elems C.E.dp (st.ev x)=some q)(hnc:∀ e∈q.2,e.nc=sz) :
  ∃ news,Src C.P sz tx (a.eval y) q.2.length news w∧Flat w σ.I σ.κ sz q.2 news∧(q.2≠[]→∃ b n c,a.eval y= .slice (some b) n c∧n=q.2.length∧∀ j u,news[j]? =some u→w.cell? (b.add j)=some u):=by
 have hnil:∀ A c,a.eval y= .slice A 0 c→q.2=[]→∃ news,Src C.P sz tx (a.eval y) q.2.length news w∧Flat w σ.I σ.κ sz q.2 news∧(q.2≠[]→∃ b n c,a.eval y= .slice (some b) n c∧n=q.2.length∧∀ j u,news[j]? =some u→w.cell? (b.add j)=some u):=by
  intro A c hv hq
  refine ⟨[],?_,by rw [hq];exact .nil,fun hne=>absurd hq hne⟩
  rw [hv,hq]
  cases A with
  | none=>exact Src.ofNil w hk c
  | some b=>exact Src.ofSlice w hk b 0 c [] (by simp) (fun j u hj=>by simp at hj) (fun u hu=>by cases hu)
 have hsome:∀ b n c news,a.eval y= .slice (some b) n c→n=q.2.length→Flat w σ.I σ.κ sz q.2 news→(∀ j u,news[j]? =some u→w.cell? (b.add j)=some u)→
   ∃ news,Src C.P sz tx (a.eval y) q.2.length news w∧Flat w σ.I σ.κ sz q.2 news∧(q.2≠[]→∃ b n c,a.eval y= .slice (some b) n c∧n=q.2.length∧∀ j u,news[j]? =some u→w.cell? (b.add j)=some u):=by
  intro b n c news hv hn hf hcell
  refine ⟨news,?_,hf,fun _=>⟨b,n,c,hv,hn,hcell⟩⟩
  rw [hv,hn]
  exact Src.ofSlice w hk b _ c news hf.len hcell hf.aby
 have hrow:∀ pl t es,st.rowAt C.E.dp pl=some (t,es)→a.eval y=fN w σ a pl→q=(t,es)→
   ∃ news,Src C.P sz tx (a.eval y) q.2.length news w∧Flat w σ.I σ.κ sz q.2 news∧(q.2≠[]→∃ b n c,a.eval y= .slice (some b) n c∧n=q.2.length∧∀ j u,news[j]? =some u→w.cell? (b.add j)=some u):=by
  intro pl t es hr hv hq
  subst hq
  rcases h.row hr with ⟨h1,h2⟩ | ⟨g,cap,cs,h2,hR⟩
  ·exact hnil none 0 (hv.trans h2) h1
  ·by_cases hne:es=[]
   ·exact hnil (some ⟨g,0,none⟩) cap (by rw [hv,h2,hne];rfl) hne
   ·have hsz:C.P.cellsOf t=sz:=by
     cases es with
     | nil=>exact absurd rfl hne
     | cons e es=>exact (hR.nc e (by simp)).symm.trans (hnc e (by simp))
    have hf:=hR.flat
    rw [hsz] at hf
    exact hsome _ _ cap _ (hv.trans h2) rfl hf (BF hR.hh)
 cases hx:st.ev x with
 | l t es=>
  rw [hx] at he
  obtain rfl:=ad he
  obtain ⟨A,cap,hv,hes⟩:=(hx▸h.eS hl (by rw [hx];simp) (by rw [hx];rfl)).Lf
  rcases hes with hes | ⟨g,o,cs,T,fz,sz',rfl,hI,hh,ht,hpos,hnc',hsize,hp,h1,hcap,hmax,hc⟩
  ·subst hes
   exact hnil A cap hv rfl
  ·by_cases hne:es=[]
   ·subst hne;exact hnil _ cap hv rfl
   ·have hsz:sz'=sz:=by
     cases es with
     | nil=>exact absurd rfl hne
     | cons e es=>exact (hnc' e (by simp)).symm.trans (hnc e (by simp))
    subst hsz
    exact hsome _ _ cap _ hv rfl (.FJ hnc' hp h1 hsize hc) (BF hh)
 | n=>
  rw [hx] at he
  obtain rfl:=ad he
  exact hnil none 0 (hx▸h.eS hl (by rw [hx];simp) (by rw [hx];rfl)).Es rfl
 | o t es=>
  rw [hx] at he
  obtain rfl:=ad he
  obtain ⟨n,rfl,hn⟩:=dQ hx rfl hl
  exact hrow (.s n) t es (by simp [St.rowAt,hn]) (by rw [AF hl];rfl) rfl
 | r pl=>
  rw [hx] at he
  obtain ⟨n,rfl,hn⟩:=dQ hx rfl hl
  have hr:st.rowAt C.E.dp pl=some q:=he
  exact hrow pl q.1 q.2 hr ((hn▸h.slot hl) (by rw [hr];rfl)) rfl
 | v pl lo len=>
  rw [hx] at he
  obtain ⟨n,rfl,hn⟩:=dQ hx rfl hl
  simp only [St.elems] at he
  split at he
  ·rename_i t es hr
   split at he
   ·rename_i hll
    obtain rfl:=ad he
    obtain ⟨A,n',cap,hpv,hv⟩:=(hn▸h.slot hl) t es hr hll
    have hlen:((es.drop lo).take len).length=len:=by simp;omega
    by_cases hne:len=0
    ·subst hne
     refine hnil _ _ hv (by simp)
    ·obtain ⟨g,cap',cs,hpv',hR⟩:=h.BA hr (fun e=>by subst e;simp at hll;omega)
     obtain ⟨rfl,rfl,rfl⟩:A=some ⟨g,0,none⟩∧n'=es.length∧cap=cap':=by
      rw [hpv] at hpv';simpa using hpv'
     have hec:=hR.ecap
     have hsz:C.P.cellsOf t=sz:=by
      cases hq:(es.drop lo).take len with
      | nil=>rw [hq] at hlen;simp at hlen;omega
      | cons e fs=>
       have he:e∈(es.drop lo).take len:=by rw [hq];simp
       exact (hR.nc e (fj (eC he))).symm.trans (hnc e he)
     rw [ab (by omega),hsz] at hv
     simp only [fg,add_lit,fi] at hv
     refine hsome ⟨g,lo*sz,none⟩ len (cap - lo) ((cs.toList.drop (lo*sz)).take (((es.drop lo).take len).length*sz)) hv hlen.symm ?_ (BF hR.hh)
     refine .FJ hnc (fun e he=>hR.pure e (fj (eC he))) (fun e he=>hR.one e (fj (eC he))) ?_ fun j e m c hj hm=>?_
     ·rw [hlen,hR.size,hsz,←da]
      exact fk _ (by omega)
     ·rw [eQ] at hj
      split at hj
      ·rw [gj] at hj
       have:=hR.cell _ e m c hj hm
       rwa [hsz,da] at this
      ·cases hj
   ·cases he
  ·cases he
 | _=>rw [hx] at he;cases he
theorem au.LZ{k:Key}{cs:List AV}{off:Nat}(h:au C st a w σ)(hb:st.box C.E.dp k=some cs):au C (st.aK C.E.dp k (cs.set off .u)) a w σ:=by
 have hbox:=fun k'=>iK (cs':=cs.set off .u) hb k'
 have hget:∀ (i:Nat)(c:AV),(cs.set off AV.u)[i]? =some c→c=AV.u∨cs[i]? =some c:=by
  intro i c hi
  rw [kj] at hi
  split at hi
  ·split at hi
   ·exact .inl (ad hi).symm
   ·cases hi
  ·exact .inr hi
 refine ⟨h.size,h.defers,fun d=>?_,fun k' cs' hk=>?_,fun k' cs' hk hc'=>?_,h.own,h.bS,h.new,h.lay⟩
 ·rw [nY]
  refine (h.fr d).FI fun pl _ ⟨r,hr⟩=>⟨?_,rfl⟩
  rw [hr]
  cases pl with
  | s d'=>rw [rf] at hr;exact hr.symm
  | c k' off'=>
   simp only [St.rowAt,hbox] at hr ⊢
   by_cases hk:k'=k
   ·subst hk
    simp only [an] at hr
    cases hc:(cs.set off AV.u)[off']? with
    | none=>simp [hc] at hr
    | some c=>
     rw [hc] at hr
     rcases hget _ _ hc with rfl | h2
     ·simp at hr
     ·simp only [hb,h2];exact hr.symm
   ·simp only [ab hk] at hr
    exact hr.symm
 ·rw [hbox] at hk
  by_cases hkk:k'=k
  ·subst hkk
   simp only [an] at hk
   obtain rfl:=ad hk
   obtain ⟨vs,T,hB⟩:=h.bx k' cs hb
   refine ⟨vs,T,hB.hh,by simpa using hB.size,hB.ow,hB.wr,fun c hm=>?_,fun i c hi=>?_,fun t kk u ht=>(iD ht).elim (fun hm=>by simpa using hB.ty t kk u hm) (fun e=>by cases e),hB.kb⟩
   ·rcases iD hm with hm | rfl
    ·exact hB.one c hm
    ·exact .inr rfl
   ·rcases hget i c hi with rfl | h2
    ·exact VR.u _
    ·exact hB.cell i c h2
  ·simp only [ab hkk] at hk
   exact h.bx k' cs' hk
 ·by_cases hkd:k.dp=C.E.dp
  ·simp only [St.aK,hkd,an] at hc'
   exact h.hpd k' cs' hk hc'
  ·simp only [St.aK,ab hkd,aG] at hc'
   split at hc'
   ·rename_i hkk
    subst hkk
    obtain rfl:=ad hc'
    have hold:=h.hpd k' cs hk (by simpa [St.box,hkd] using hb)
    refine ⟨hold.1,fun c hm=>?_⟩
    rcases iD hm with hm | rfl
    ·exact hold.2 c hm
    ·rfl
   ·exact h.hpd k' cs' hk hc'
theorem au.Dn{pl:Pl}{st':St}(h:au C st a w σ)(hp:st.putAt C.E.dp .u pl=some st'):au C st' a w σ∧Idle C st' (some (pl.pr C.E.dp)):=by
 cases pl with
 | s d=>
  obtain rfl:=ad hp
  exact ⟨h.LX d,vX fun t es=>by rw [lg,aa rfl];simp⟩
 | c k off=>
  simp only [St.putAt] at hp
  split at hp
  ·rename_i cs hb
   obtain rfl:=ad hp
   refine ⟨h.LZ hb,⟨fun _ _ _ _=>by simp [Pl.pr],fun _ _ _=>by simp [Pl.pr],fun k' cs' off' t es hk hc e=>?_,fun _=>by simp [Pl.pr],by simp [Pl.pr]⟩⟩
   simp only [Pl.pr,jm,dL.rowC.injEq] at e
   obtain ⟨rfl,rfl⟩:=e
   rw [iK hb,aa rfl] at hk
   obtain rfl:=ad hk
   rw [kj] at hc
   simp at hc
  ·cases hp
theorem au.consume(h:au C st a w σ){y:Operand}{x:ba}{t:TypeId}{q:List AV×St}(hl:bP y x=true)(he:consume C.E st t x=some q) :
  au C q.2 a w σ∧((q.1=[]∧a.eval y= .slice none 0 0)∨
   ∃ L g cap cs,a.eval y= .slice (some ⟨g,0,none⟩) q.1.length cap∧eW C.P C.W w σ L True t q.1 g cap cs∧Idle C q.2 (some L)):=by
 have hfin:∀ {pl es st' v},au C st' a w σ→Idle C st' (some (Pl.pr C.E.dp pl))→OwnAt C.P C.W w σ (pl.pr C.E.dp) True t es v→a.eval y=v→q=(es,st')→
   au C q.2 a w σ∧((q.1=[]∧a.eval y= .slice none 0 0)∨∃ L g cap cs,a.eval y= .slice (some ⟨g,0,none⟩) q.1.length cap∧eW C.P C.W w σ L True t q.1 g cap cs∧Idle C q.2 (some L)):=by
  intro pl es st' v hc hi ho hv hq
  subst hq
  refine ⟨hc,?_⟩
  rcases ho with ⟨h1,h2⟩ | ⟨g,cap,cs,h2,hR⟩
  ·exact .inl ⟨h1,hv.trans h2⟩
  ·exact .inr ⟨_,g,cap,cs,hv.trans h2,hR,hi⟩
 unfold A.consume at he
 split at he
 ·obtain rfl:=ad he
  exact ⟨h,.inl ⟨rfl,(h.uG (x:=.c .n) hl rfl).Es⟩⟩
 ·cases he
 ·rename_i m
  have hs:=h.slot hl
  split at he
  ·rename_i hx
   obtain rfl:=ad he
   rw [hx] at hs
   exact ⟨h,.inl ⟨rfl,VR.Es hs⟩⟩
  ·rename_i t' es hx
   split at he
   ·rename_i htt
    subst htt
    rw [hx] at hs
    exact hfin (pl:=.s m) (h.LX m) (vX fun t es=>by rw [lg,aa rfl];simp) hs rfl (ad he).symm
   ·cases he
  ·rename_i pl hx
   split at he
   ·rename_i hm
    obtain ⟨⟨t',es⟩,hr,he1⟩:=af.1 he
    clear he
    simp only at he1
    split at he1
    ·rename_i htt
     subst htt
     obtain ⟨st',hp,he2⟩:=af.1 he1
     clear he1
     obtain ⟨h1,h2⟩:=h.Dn hp
     rw [hx] at hs
     exact hfin h1 h2 ((h.row hr).Di fun _=>hm) (hs (by rw [hr];rfl)) (ad he2).symm
    ·cases he1
   ·cases he
  ·rename_i pl lo len hx
   split at he
   ·rename_i hm
    simp only [aB,cR] at hm
    obtain ⟨hm,hlo⟩:=hm
    obtain ⟨⟨t',es⟩,hr,he1⟩:=af.1 he
    clear he
    simp only at he1
    split at he1
    ·rename_i htt
     obtain ⟨hle,htt⟩:=htt
     obtain ⟨st',hp,he2⟩:=af.1 he1
     clear he1
     obtain ⟨h1,h2⟩:=h.Dn hp
     rw [hx] at hs
     subst hlo
     have hv:=hs t' es hr (by omega)
     subst htt
     exact hfin h1 h2 (((h.row hr).short hle hv).Di fun _=>hm) rfl (ad he2).symm
    ·cases he1
   ·cases he
  ·cases he
theorem abz{t sz by_:Nat}{x y:ba}(h:au C st a w σ)(hl:bG C.P (.ap t sz by_ x y) o.op=true)(he:execOp R Ω C.E st d (.ap t sz by_ x y)=some r) :
  ez C o d a w σ r.2 r.1:=by
 obtain ⟨c,x',y',ty,hop,hcal,hargs,htys,hlx,hly,hty,hsz,hby,hz⟩:∃ c x' y' ty,o.op= .call c∧c.callee= .builtin .append∧c.args.toList=[x',y']∧c.argTypes.toList=[ty,ty]∧bP x' x=true∧bP y' y=true∧
   j8 C.P ty=some t∧sized C.P t sz=true∧C.P.bytesOf t=by_∧∃ zv,zeroOf C.P t=some zv∧zv.cells.size=sz:=by
  simp only [bG] at hl;split at hl
  ·rename_i c hy
   simp only [aB] at hl
   obtain ⟨h1,h2⟩:=hl
   split at h1
   ·rename_i hcal
    split at h2
    ·rename_i x' y' t1 t2 ha ht
     simp only [aB,cR] at h2
     obtain ⟨⟨⟨⟨⟨⟨h3,h4⟩,h5⟩,h6⟩,h7⟩,h8⟩,h9⟩:=h2
     subst h5
     split at h9
     ·rename_i zv hzv
      exact ⟨c,x',y',t1,hy,hcal,ha,ht,h3,h4,h6,h7,h8,zv,hzv,by simpa using h9⟩
     ·cases h9
    ·cases h2
   ·cases h1
  ·cases hl
 obtain ⟨zv,hzv,hzs⟩:=hz
 have hu:=yh hty
 obtain ⟨i,hi,hiz⟩:=xn hzv
 obtain ⟨_,hcells,hpos⟩:=nX hsz
 have hisz:i.size=sz:=by rw [←hcells];simp [Program.cellsOf,hi]
 have hiby:i.bytes=by_:=by rw [←hby];simp [Program.bytesOf,hi]
 have hargs':c.args=#[x',y']:=by rw [←Array.toArray_toList (xs:=c.args),hargs]
 have htys':c.argTypes=#[ty,ty]:=by rw [←Array.toArray_toList (xs:=c.argTypes),htys]
 have hrun:∀ cv w',(Builtin.append_ #[ty,ty] o.type #[a.eval x',a.eval y']).run C.P w= .ok cv w'→(Go.execOp a.eval o).run C.P w= .ok (.value cv) w':=by
  intro cv w' hr
  unfold Go.execOp
  simp [hop,resolve,hcal,hargs',htys',invoke,builtin,hr]
 simp only [execOp] at he
 obtain ⟨dd,hdd,he1⟩:=af.1 he
 clear he
 obtain ⟨ys,hys,he2⟩:=af.1 he1
 clear he1
 obtain ⟨q,hq,he3⟩:=af.1 he2
 clear he2
 split at he3
 ·rename_i hcond
  simp only [aB,cE] at hcond
  obtain ⟨⟨hnc,hbytes⟩,hmax⟩:=hcond
  obtain rfl:=ad he3
  have hnc':∀ e∈ys.2,e.nc=sz:=fun e he=>by simpa using List.all_eq_true.1 hnc e he
  obtain ⟨news,hsrc,hf,hsl⟩:=h.src (sz:=sz) hu hly hys hnc'
  obtain ⟨hc,hdst⟩:=h.consume hlx hq
  have hsrc':Src C.P i.size ty (a.eval y') ys.2.length news w:=by rw [hisz];exact hsrc
  have hm63:(((q.1.length+ys.2.length:Nat):Int))≤9223372036854775807:=by simp [maxLen] at hmax;omega
  have hgrow:∀ A cap olds,a.eval x'= .slice A q.1.length cap→q.1.length≤cap→(Builtin.firstCells i.size q.1.length (.slice A q.1.length cap)).run C.P w.drew= .ok olds.toArray w.drew→Flat w σ.I σ.κ sz q.1 olds→
    cap<q.1.length+ys.2.length→ez C o d a w σ (q.2.aX (.s dd)) (.o t (q.1++ys.2)):=by
   intro A cap olds hv hle hold hfo hlt
   have hap:=run_append_grow_src (P:=C.P) w ty ty o.type t i zv hu hi hiz A q.1.length cap olds hold _ _ news hsrc' hlt hm63
    (growslice_fits hlt (by rw [hiby];exact hbytes))
   have hge:=grownCap_ge w (q.1.length+ys.2.length) cap t
   have hgm:=grownCap_le_maxLen w (q.1.length+ys.2.length) cap t hmax
   generalize hN:grownCap w (q.1.length+ys.2.length) cap t=N at hap hge hgm
   have hff:=hfo.append hf
   have hlen:(olds++news).length=(q.1.length+ys.2.length)*sz:=by rw [hff.len,cC]
   obtain ⟨σ',hst,hc',ho,_⟩:=(hc.aX (.s dd)).drew.newRow (L:=.rowS C.E.dp dd) (t:=t) (es:=q.1++ys.2) (cap:=N) (cs:=(olds++news).toArray++Builtin.zeroCells zv.cells (N - (q.1.length+ys.2.length)))
    (by omega) (fun e he=>by rw [hcells];exact hff.nc e he) (by simpa using hge) hgm
    (by
     rw [Array.size_append,size_zeroCells,hzs,hcells,qc,hlen,←da]
     congr 1;omega) hff.pure hff.one (fun j e m c hj hq'=>by
      have hlt2:=AG (cu hj) (cu hq') (hff.nc e (aP hj))
      rw [cC] at hlt2
      rw [hcells,bA,vE,aa (by rw [qc,hlen];exact hlt2),zh]
      exact (hff.cell j e m c hj hq').mono (fun _ h=>h) (fun _ _=>rfl) (fun _ _=>rfl))
   rw [cC] at ho
   exact .jK (hrun _ _ (by rw [hv];exact hap)) (au.rh hdd hst.drew hc' ho)
  rcases hdst with ⟨h1,h2⟩ | ⟨L,g,cap,cs,hv,hR,hid⟩
  ·
   rw [h1] at hgrow hm63 ⊢
   by_cases hys0:ys.2=[]
   ·have hap:=run_append_nothing (P:=C.P) w ty ty o.type t i hu hi none 0 0 (aT _) (a.eval y') (by
     have:=hsrc'
     rw [hys0] at this
     have hn:news=[]:=p7 (by rw [hf.len,hys0];simp)
     rw [hn] at this
     exact this)
    rw [hys0]
    exact .jK (hrun _ _ (by rw [h2];exact hap)) (au.rh hdd (.refl _ _ _) (hc.aX _) (.inl ⟨rfl,rfl⟩))
   ·have hpos':0<ys.2.length:=by cases hq:ys.2 with | nil=>exact absurd hq hys0 | cons=>simp
    exact hgrow none 0 [] h2 (aT _) (by rw [run_firstCells_none]) .nil (by simpa using hpos')
  ·have hszt:C.P.cellsOf t=sz:=hcells
   by_cases hys0:ys.2=[]
   ·have hap:=run_append_nothing (P:=C.P) w ty ty o.type t i hu hi (some ⟨g,0,none⟩) q.1.length cap hR.ecap (a.eval y') (by
     have:=hsrc'
     rw [hys0] at this
     have hn:news=[]:=p7 (by rw [hf.len,hys0];simp)
     rw [hn] at this
     exact this)
    rw [hys0,p8]
    refine .jK (hrun _ _ (by rw [hv];exact hap)) (au.rh hdd (.relabel (hR.wr trivial)) ((hc.relabel hR.ow hid).aX _) (.inr ⟨g,cap,cs,rfl,hR.relabel⟩))
   ·by_cases hroom:q.1.length+ys.2.length≤cap
    ·obtain ⟨b,n,c',hvy,hn,hcell⟩:=hsl hys0
     have hfit:q.1.length*i.size+news.length≤cs.size:=by
      rw [hf.len,hR.size,hisz,hszt,←da];exact fk _ hroom
     have hap:=run_append_room (P:=C.P) w ty o.type t i hu hi g q.1.length cap cs hR.hh b n c' news (by rw [hisz,hn];exact hf.len) hcell hf.aby (by rw [hn];exact hroom) hfit
     have hw:((cs.toList.take (q.1.length*i.size)++news++cs.toList.drop (q.1.length*i.size+news.length)).toArray)=rV cs (q.1.length*sz) news:=by rw [hisz];rfl
     rw [hw,hn] at hap
     have hfit':q.1.length*sz+news.length≤cs.size:=by rw [←hisz];exact hfit
     have hsame:=iB.setRow hc hR.ow (rV cs (q.1.length*sz) news)
     have hc':=hc.GY hsame hid
     have hst:=cK.setRow hc hR.ow (hR.wr trivial) (rV cs (q.1.length*sz) news)
     have hfo:=hR.flat
     rw [hszt] at hfo
     have hff:=hfo.append hf
     have hR':eW C.P C.W (w.setRow g (rV cs (q.1.length*sz) news)) σ L True t (q.1++ys.2) g cap (rV cs (q.1.length*sz) news):=by
      refine ⟨hR.ow,hR.wr,setRow_heap w _ _ _ _ _ hR.hh,hR.pos,fun e he=>by rw [hszt];exact hff.nc e he,by simpa using hroom,hR.max,by rw [BD _ _ _ hfit',hR.size],hff.pure,hff.one,fun j e m c hj hm=>?_,hR.base⟩
      have hv':=hff.cell j e m c hj hm
      have hlt2:=AG (cu hj) (cu hm) (hff.nc e (aP hj))
      rw [hszt,BE _ _ _ hfit']
      refine VR.same hsame ?_
      have hol:((cs.toList.drop 0).take (q.1.length*sz)).length=q.1.length*sz:=hfo.len
      rw [kh,hol] at hv'
      rw [cC,da] at hlt2
      by_cases hj2:j*sz+m<q.1.length*sz
      ·rw [aa hj2] at hv'
       rw [ab (by omega)]
       rw [eQ,aa hj2,tD] at hv'
       simpa [bA] using hv'
      ·rw [ab hj2] at hv'
       rw [aa ⟨by omega,by rw [hf.len];exact hlt2⟩]
       exact hv'
     refine .jK (hrun _ _ (by rw [hv,hvy,hn];exact hap)) (au.rh hdd (hst.trans (.relabel (hR.wr trivial))) ((hc'.relabel hR.ow hid).aX _) (.inr ⟨g,cap,_,by rw [cC],hR'.relabel⟩))
    ·have hfo:=hR.flat
     rw [hszt] at hfo
     refine hgrow (some ⟨g,0,none⟩) cap _ hv hR.ecap (run_firstCells_some w.drew i.size _ _ _ _ _ (by rw [hisz];exact hfo.len) (fun j u hj=>?_)) hfo (by omega)
     have:=BF hR.hh j u hj
     simpa using this
 ·cases he3
end
variable [bI]
section
variable {C:Cx}{st:St}{a:Act}{w:World}{σ:Sp}{o:Oper}{d:Option Nat}{R:Rec}{Ω:dt}{r:AV×St}
def Sp.eH(σ:Sp)(g:Nat):Sp:={σ with ow:=fun b=>if b=g then none else σ.ow b,I:=fun b=>σ.I b∨b=g}
theorem au.PJ{g:Nat}{L:dL}(h:au C st a w σ)(hg:σ.ow g=some L)(hi:Idle C st (some L)):au C st a w (σ.eH g):=by
 refine h.GY (L:=some L) ⟨fun b l hb hl=>⟨rfl,?_⟩,fun _ _=>rfl,fun _ h=>.inl h,rfl,aT _,fun b l hb=>?_,fun b hb=>?_⟩ hi
 ·grind [Sp.eH]
 ·simp only [Sp.eH] at hb
  split at hb
  ·cases hb
  ·exact h.own b l hb
 ·rcases hb with hb | rfl
  ·obtain ⟨h1,h2⟩:=h.bS b hb
   grind [Sp.eH]
  ·exact ⟨h.own _ _ hg,by simp [Sp.eH]⟩
theorem cK.eH{g:Nat}(hW:C.W g):cK C w σ w (σ.eH g):=
 ⟨aT _,fun _ _ _=>rfl,fun _ h=>.inl h,fun _ _=>rfl,fun b hb=>hb.elim .inl (by grind),fun _ _=>rfl,fun b _ hb=>ab (fun e=>hb (by rw [e];exact hW)),rfl,rfl⟩
theorem eW.bS{P:Program}{W:Nat→Prop}{L:dL}{wp:Prop}{t:TypeId}{es:List AV}{g cap lo len:Nat}{cs:Array Value}{I:Nat→Prop}(hR:eW P W w σ L wp t es g cap cs)(hI:∀ b,σ.I b→I b)(hg:I g)
  (hle:lo+len≤es.length):VR w I σ.κ (.l t ((es.drop lo).take len)) (.slice (some ⟨g,lo*P.cellsOf t,none⟩) len (cap - lo)):=by
 have hm:∀ e∈(es.drop lo).take len,e∈es:=by grind
 have hlen:((es.drop lo).take len).length=len:=by simp;omega
 have hec:=hR.ecap
 have:=VR.l (w:=w) (I:=I) (κ:=σ.κ) t ((es.drop lo).take len) g (lo*P.cellsOf t) (cap - lo) cs t (0,0) (P.cellsOf t) hg hR.hh (fun _=>⟨fun _=>⟨rfl,rfl⟩,fun h=>absurd hR.base (Nat.not_le_of_lt h)⟩) hR.pos (fun e he=>hR.nc e (hm e he))
  (by rw [hlen,hR.size,←da];exact fk _ (by omega)) (fun e he=>hR.pure e (hm e he)) (fun e he=>hR.one e (hm e he)) (by omega) (by have:=hR.max;omega) (fun j e m c hj hq=>by
   rw [eQ] at hj
   split at hj
   ·rw [gj] at hj
    have:=hR.cell _ e m c hj hq
    rw [da] at this
    exact this.Dm hI (fun _ _=>rfl) (jX (hR.pure e (aP hj)) c (aP hq))
   ·cases hj)
 grind
theorem eW.TH{P:Program}{W:Nat→Prop}{L:dL}{wp:Prop}{t:TypeId}{es:List AV}{g cap:Nat}{cs:Array Value}{I:Nat→Prop}(hR:eW P W w σ L wp t es g cap cs)(hI:∀ b,σ.I b→I b)(hg:I g) :
  VR w I σ.κ (.l t es) (.slice (some ⟨g,0,none⟩) es.length cap):=by
 have:=hR.bS hI hg (lo:=0) (len:=es.length) (by omega)
 simpa using this
theorem au.freeze{L:dL}{t:TypeId}{es:List AV}{v:Value}(h:au C st a w σ)(ho:OwnAt C.P C.W w σ L True t es v)(hi:Idle C st (some L)) :
  ∃ σ',cK C w σ w σ'∧au C st a w σ'∧VR w σ'.I σ'.κ (.l t es) v∧σ'.κ=σ.κ:=by
 rcases ho with ⟨rfl,rfl⟩ | ⟨g,cap,cs,rfl,hR⟩
 ·exact ⟨σ,.refl _ _ _,h,.lnil _ _ _,rfl⟩
 ·exact ⟨_,.eH (hR.wr trivial),h.PJ hR.ow hi,hR.TH (I:=(σ.eH g).I) (fun _ h=>.inl h) (.inr rfl),rfl⟩
theorem au.BG{st':St}(h:au C st a w σ)(hfr:∀ d,ay st'.fr d= .u∨ay st'.fr d=ay st.fr d)(hbx:∀ k cs,st'.box C.E.dp k=some cs→st.box C.E.dp k=some cs)
  (hhp:∀ k cs,k.dp≠C.E.dp→st'.hp k=some cs→st.hp k=some cs):au C st' a w σ:=by
 have h1:au C {st with hp:=st'.hp} a w σ→au C st' a w σ:=fun h1=>h1.forget hfr ((by grind [St.box])) rfl
 refine h1 ⟨h.size,h.defers,fun d=>(h.fr d).FI fun pl _ ⟨r,hr⟩=>?_,fun k cs hk=>?_,fun k cs hk hc=>h.hpd k cs hk (hhp k cs hk hc),h.own,h.bS,h.new,h.lay⟩
 ·refine ⟨?_,rfl⟩
  rw [hr]
  cases pl with
  | s d'=>exact hr.symm
  | c k off=>
   grind [St.rowAt,St.box]
 ·by_cases hd:k.dp=C.E.dp
  ·exact h.bx k cs (by grind [St.box])
  ·simp only [St.box,ab hd] at hk
   exact h.bx k cs (by grind [St.box])
theorem G1(fr:List (Nat×AV))(ks:List Nat)(d:Nat):ay (ea fr ks) d= .u∨ay (ea fr ks) d=ay fr d:=by
 induction ks with
 | nil=>exact .inl rfl
 | cons k ks ih=>
  grind [ea,ay]
theorem df{bx:List (Nat×List AV)}{ks:List Nat}{d:Nat}{cs:List AV}(h:aO (di bx ks) d=some cs):aO bx d=some cs:=by
 induction ks with
 | nil=>simp [di,aO] at h
 | cons k ks ih=>
  grind [di,aO]
theorem au.aN(h:au C st a w σ)(kf kb:List Nat):au C (st.aN kf kb) a w σ:=
 h.BG (G1 st.fr kf) (fun k cs hk=>by
  by_cases hd:k.dp=C.E.dp
  ·grind [St.box,St.aN,df]
  grind [St.box,St.aN]) (fun _ _ _ h=>h)
theorem au.cS{d:Nat}{x:AV}(h:au C st a w σ)(hx:SR C w σ st a d x (a.tmps.getD d undef))(hb:∀ t es,x= .o t es→∀ d',(ay st.fr d').jf (.s d)=false)(hd:d<C.nt):au C (st.cS d x) a w σ:=by
 have:=h.put hd hx hb
 have e:a.put (some d) (a.tmps.getD d undef)=a:=by
  have hd':d<a.tmps.size:=h.size▸hd
  simp only [Act.put]
  have:a.tmps.setIfInBounds d (a.tmps.getD d undef)=a.tmps:=by
   apply Array.ext_getElem?
   simp_all [tE]
  rw [this]
 rwa [e] at this
theorem Oe{d:Nat}{x:AV}{v:Value}(hd:C.nt≤d)(h:au C st a w σ)(hx:ay st.fr d=x)(hv:a.tmps.getD d undef=v):v=undef:=by
 rw [←hv]
 have:¬d<a.tmps.size:=by rw [h.size];omega
 simp [this]
theorem Wh{d:Nat}{t:TypeId}{es:List AV}(h:au C st a w σ)(hx:ay st.fr d= .o t es):d<C.nt:=by
 rcases lF d C.nt with hd | hd
 ·exact hd
 ·have:=h.fr d
  rw [hx,Oe hd h rfl rfl] at this
  rcases this with ⟨_,h2⟩ | ⟨_,_,_,h2,_⟩<;>cases h2
theorem L0{d:Nat}{x:AV}{v:Value}(h:au C st a w σ)(hv:a.tmps.getD d undef=v)(hne:v≠undef):d<C.nt:=by
 rcases lF d C.nt with hd | hd
 ·exact hd
 ·exact absurd (by rw [←hv];exact Oe (x:=ay st.fr d) hd h rfl rfl) hne
theorem L1{k:Key}{off:Nat}{c:AV}{v:Value}(hc:c.pure=true)(h:CR C w σ k off c v):VR w σ.I σ.κ c v:=by
 cases c<;>first | exact h | cases hc
theorem au.Dp{k:Key}{cs:List AV}{off:Nat}{x:AV}(h:au C st a w σ)(hb:st.box C.E.dp k=some cs)(hno:∀ t es,cs[off]? ≠some (.o t es))(hx:x.one=true)
  (hdeep:k.dp≠C.E.dp→x.deep k.dp=true) (hbor:∀ d,(ay st.fr d).jf (.c k off)=false)
  (hv:∀ vs T,w.heap[σ.κ k]? =some (.cells vs T (0,0))→CR C w σ k off x (vs.getD off undef))
  (hzt:∀ t kk u,x= .bp t kk u→∀ vs T,w.heap[σ.κ k]? =some (.cells vs T (0,0))→t=T∧vs.size=cs.length:=by intro _ _ _ e;cases e):au C (st.aK C.E.dp k (cs.set off x)) a w σ:=by
 have hbox:=fun k'=>iK (cs':=cs.set off x) hb k'
 obtain ⟨vs,T,hB⟩:=h.bx k cs hb
 refine ⟨h.size,h.defers,fun d=>?_,fun k' cs' hk=>?_,fun k' cs' hk hc'=>?_,h.own,h.bS,h.new,h.lay⟩
 ·rw [nY]
  refine (h.fr d).FI fun pl hpl ⟨r,hr⟩=>⟨?_,rfl⟩
  rw [hr]
  cases pl with
  | s d'=>grind [rf]
  | c k' off'=>
   simp only [St.rowAt,hbox] at hr ⊢
   by_cases hk:k'=k
   ·subst hk
    by_cases ho:off=off'
    ·subst ho
     rw [hbor d] at hpl;cases hpl
    ·simp only [an,kj,ab ho] at hr
     simp only [hb];exact hr.symm
   ·simp only [ab hk] at hr
    exact hr.symm
 ·rw [hbox] at hk
  by_cases hkk:k'=k
  ·subst hkk
   simp only [an] at hk
   obtain rfl:=ad hk
   refine ⟨vs,T,hB.hh,by simpa using hB.size,hB.ow,hB.wr,fun c hm=>?_,fun i c hi=>?_,fun t kk u ht=>(iD ht).elim (fun hm=>by simpa using hB.ty t kk u hm) (fun e=>by simpa using hzt t kk u e.symm vs T hB.hh),hB.kb⟩
   ·rcases iD hm with hm | rfl
    ·exact hB.one c hm
    ·exact .inl hx
   ·rw [kj] at hi
    split at hi
    ·rename_i e
     split at hi
     ·obtain rfl:=ad hi
      subst e
      exact hv vs T hB.hh
     ·cases hi
    ·exact hB.cell i c hi
  ·simp only [ab hkk] at hk
   exact h.bx k' cs' hk
 ·by_cases hkd:k.dp=C.E.dp
  ·simp only [St.aK,hkd,an] at hc'
   exact h.hpd k' cs' hk hc'
  ·simp only [St.aK,ab hkd,aG] at hc'
   split at hc'
   ·rename_i hkk
    subst hkk
    obtain rfl:=ad hc'
    have hold:=h.hpd k' cs hk (by grind [St.box])
    grind
   ·exact h.hpd k' cs' hk hc'
theorem set_set(cs:List AV)(off:Nat)(x y:AV):(cs.set off x).set off y=cs.set off y:=by
 simp_all
theorem JS(bx:List (Nat×List AV))(d:Nat)(x y:List AV):nB (nB bx d x) d y=nB bx d y:=by
 induction bx with
 | nil=>rfl
 | cons z bx ih=>
  grind [nB]
theorem Kq(dp:Nat)(st:St)(k:Key)(x y:List AV):(st.aK dp k x).aK dp k y=st.aK dp k y:=by
 unfold St.aK
 split
 ·simp only [JS]
 ·congr 1
  grind [aG]
theorem AH{k:Key}{off:Nat}(h:k.dp=C.E.dp):(Pl.c k off).jr C.E=true:=by simp [Pl.jr,h]
def dL.dpt:dL→Nat
 | .box k=>k.dp
 | .rowS dp _=>dp
 | .rowC k _=>k.dp
 | .grp dp _=>dp
 | .mark dp=>dp
theorem au.agP{d:Nat}{cs:List AV}{vs:Array Value}{T:TypeId}{g:Nat}{ow':Nat→Option dL}(h:au C st a w σ)(how:∀ b l,σ.ow b=some l→l.dpt≤C.E.dp→ow' b=some l)(hown:∀ b l,ow' b=some l→b<w.heap.size)(himm:∀ b,σ.I b→ow' b=none)
  (hh:w.heap[g]? =some (.cells vs T (0,0))) (hkb:(1000000≤d→T=(d - 1000000) / 1000)∧bI.n0≤g) (hsz:cs.length≤vs.size) (hg:ow' g=some (.box ⟨C.E.dp,d⟩)) (hW:C.W g) (h1:∀ c∈cs,c.one=true∨c= .u)
  (hcell:∀ (off:Nat)(c:AV),cs[off]? =some c→match c with
   | .o t es=>OwnAt C.P C.W w ⟨σ.κ,ow',σ.I⟩ (.rowC ⟨C.E.dp,d⟩ off) True t es (vs.getD off undef)
   | c=>c.pure=true∧VR w σ.I σ.κ c (vs.getD off undef))
  (hfr:∀ d',(ay st.fr d').cJ ⟨C.E.dp,d⟩=true) (hbx:∀ d' cs',aO st.bx d'=some cs'→∀ c∈cs',c.cJ ⟨C.E.dp,d⟩=true) :
  au C {st with bx:=(d,cs)::st.bx} a w ⟨fun k=>if k=⟨C.E.dp,d⟩ then g else σ.κ k,ow',σ.I⟩:=by
 have hhp:=IJ h d
 have hkap:∀ k,k≠⟨C.E.dp,d⟩→(if k=⟨C.E.dp,d⟩ then g else σ.κ k)=σ.κ k:=fun k hk=>ab hk
 have hnk:∀ (x:AV),x.cJ ⟨C.E.dp,d⟩=true→∀ k,x.cJ k=false→k≠⟨C.E.dp,d⟩:=by
  grind
 have hrow:∀ pl r,({st with bx:=(d,cs)::st.bx} : St).rowAt C.E.dp pl=some r→(∀ off,pl≠.c ⟨C.E.dp,d⟩ off)→st.rowAt C.E.dp pl=some r:=by
  intro pl r hr hne
  cases pl with
  | s d'=>exact hr
  | c k off=>
   simp only [St.rowAt,St.box] at hr ⊢
   by_cases hk:k.dp=C.E.dp
   ·have hkd:d≠k.d:=fun e=>hne off (by cases k;grind)
    grind [aO]
   grind
 have hmk:Marks C a.defers w ⟨fun k=>if k=⟨C.E.dp,d⟩ then g else σ.κ k,ow',σ.I⟩:=by
  obtain ⟨Ds,h0,h1,h2⟩:=h.defers
  exact ⟨Ds,h0,h1,fun D hD=>⟨how D _ (h2 D hD).1 (aT _),(h2 D hD).2⟩⟩
 refine ⟨h.size,hmk,fun d'=>?_,fun k cs' hk=>?_,h.hpd,hown,fun b hb=>⟨(h.bS b hb).1,himm b hb⟩,h.new,h.lay⟩
 ·have hx:=h.fr d'
  have hn:=hfr d'
  have hpv:∀ pl,(∀ off,pl≠.c ⟨C.E.dp,d⟩ off)→fN w ⟨fun k=>if k=⟨C.E.dp,d⟩ then g else σ.κ k,ow',σ.I⟩ a pl=fN w σ a pl:=by
   intro pl hne
   cases pl with
   | s d''=>rfl
   | c k off=>
    grind [fN]
  generalize ay st.fr d'=x at hx hn ⊢
  show SR _ _ _ _ _ _ x _
  cases x with
  | o t es=>exact OwnAt.aN (C:=C) hx (fun g hg=>⟨rfl,how _ _ hg (aT _)⟩) (fun _ h=>h) (fun _ _=>rfl)
  | r pl=>
   have hne:∀ off,pl≠.c ⟨C.E.dp,d⟩ off:=by grind [AV.cJ]
   intro hsm
   obtain ⟨r,hr⟩:=gd.1 hsm
   rw [hpv pl hne]
   exact hx (by grind)
  | v pl lo len=>
   have hne:∀ off,pl≠.c ⟨C.E.dp,d⟩ off:=by grind [AV.cJ]
   intro t es ht hll
   rw [hpv pl hne]
   exact hx t es (hrow pl _ ht hne) hll
  | q pl i sz off=>
   have hne:∀ off,pl≠.c ⟨C.E.dp,d⟩ off:=by grind [AV.cJ]
   intro t es ht hll
   rw [hpv pl hne]
   exact hx t es (hrow pl _ ht hne) hll
  | w g t x=>exact pt.aN hx (fun b hb=>⟨rfl,how _ _ hb (aT _)⟩) fun _ h=>h
  | ag cs' rs=>exact wG.to hx (fun c hc v hv=>hv.mono (fun _ h=>h) (fun _ _=>rfl) (by grind [n9,AV.cJ])) (fun _ _ hr=>⟨hr,rfl⟩)
  | _=>exact VR.mono hx (fun _ h=>h) (fun _ _=>rfl) (by grind)
 ·by_cases hK:k=⟨C.E.dp,d⟩
  ·subst hK
   simp only [St.box,an,aO] at hk
   obtain rfl:=ad hk
   refine ⟨vs,T,by grind,hsz,by grind,by grind,h1,fun off c hc=>?_,fun t _ _ ht=>(by obtain ⟨m,hm⟩:=dZ.1 ht;cases (hcell m _ hm).1),by grind⟩
   have hv:=hcell off c hc
   by_cases ho:∃ t es,c= .o t es
   ·obtain ⟨t,es,rfl⟩:=ho
    rcases hv with hv | ⟨g',cap,cs',hv,hr⟩
    ·exact .inl hv
    ·exact .inr ⟨g',cap,cs',hv,⟨hr.ow,fun _=>hr.wr trivial,hr.hh,hr.pos,hr.nc,hr.ecap,hr.max,hr.size,hr.pure,hr.one,fun j e m c he hc=>(hr.cell j e m c he hc).Dm (fun _ h=>h) (fun _ _=>rfl) (jX (hr.pure e (aP he)) c (aP hc)),hr.base⟩⟩
   ·split at hv
    ·grind
    ·exact Ri (hv.2.Dm (fun _ h=>h) (fun _ _=>rfl) hv.1)
  ·have hk':st.box C.E.dp k=some cs':=by
    simp only [St.box] at hk ⊢
    by_cases hkd:k.dp=C.E.dp
    ·have hne:d≠k.d:=fun e=>hK (by cases k;grind)
     grind [aO]
    grind
   obtain ⟨vs',T',hB⟩:=h.bx k cs' hk'
   have hkdp:k.dp≤C.E.dp:=by
    by_cases hkd:k.dp=C.E.dp
    ·omega
    ·simp only [St.box,ab hkd] at hk'
     exact iE (h.hpd k cs' hkd hk').1
   have hmem:∀ c∈cs',c.cJ ⟨C.E.dp,d⟩=true:=by
    grind [St.box]
   refine ⟨vs',T',by simp only [ab hK];exact hB.hh,hB.size,by simp only [ab hK];exact how _ _ hB.ow hkdp,fun hw=>by simp only [ab hK];exact hB.wr hw,hB.one,fun off c hc=>?_,hB.ty,by simp only [ab hK];exact hB.kb⟩
   exact CR.aN (C:=C) (hB.cell off c hc) (fun g hg=>⟨rfl,how _ _ hg hkdp⟩) (fun _ h=>h) (fun _ _=>rfl) ((by grind)) fun b g hg=>⟨rfl,how _ _ hg (aT _)⟩
theorem flat_get(sz:Nat):∀ {es:List AV}{i:Nat}{c:AV},(∀ e∈es,e.nc=sz)→(es.flatMap AV.cl)[i]? =some c→∃ (j m:Nat)(e:AV),es[j]? =some e∧e.cl[m]? =some c∧i=j*sz+m
 | [],i,c,_,h=>by simp at h
 | x::es,i,c,hn,h=>by
  have hx:x.cl.length=sz:=hn x (by simp)
  rw [CN] at h
  rcases lF i sz with hi | hi
  ·rw [og (by omega)] at h
   exact ⟨0,i,x,rfl,h,by omega⟩
  ·rw [tG (by omega)] at h
   obtain ⟨j,m,e,h1,h2,h3⟩:=flat_get sz (fun e he=>hn e (by simp [he])) h
   exact ⟨j+1,m,e,by simpa using h1,h2,by grind⟩
theorem L2(sz:Nat):∀ {es:List AV},(∀ e∈es,e.nc=sz)→(es.flatMap AV.cl).length=es.length*sz
 | [],_=>by simp
 | x::es,hn=>by
  have hx:x.cl.length=sz:=hn x (by simp)
  rw [CN,cC,L2 sz (fun e he=>hn e (by simp [he])),hx,bD,da]
  omega
theorem BH(sz:Nat):∀ (n:Nat)(cs:List AV),(chunks sz n cs).length=n
 | 0,_=>rfl
 | n+1,cs=>by simp [chunks,BH sz n]
theorem kU(sz:Nat)(hsz:0<sz):∀ {n:Nat}{cs:List AV}{j:Nat}{e:AV},(∀ c∈cs,c.one=true)→n*sz≤cs.length→(chunks sz n cs)[j]? =some e→e.cl=(cs.drop (j*sz)).take sz∧(j+1)*sz≤cs.length∧(AV.bk cs=true→e.pure=true)
 | 0,cs,j,e,_,_,h=>by simp [chunks] at h
 | n+1,cs,0,e,h1,hl,h=>by
  simp only [chunks,zm,jm] at h
  have hl':sz≤cs.length:=by grind
  refine ⟨?_,by omega,fun hp=>?_⟩
  ·rw [zi,tD,←h]
   split
   ·rename_i e1
    subst e1
    cases cs with
    | nil=>simp at hl'
    | cons c cs=>
     have hc:=h1 c (by simp)
     cases c<;>first | rfl | (simp [AV.one] at hc)
   ·rfl
  ·rw [←h]
   split
   ·rename_i e1
    subst e1
    cases cs with
    | nil=>simp at hl'
    | cons c cs=>grind [fe]
   ·exact jk (by grind [fe])
 | n+1,cs,j+1,e,h1,hl,h=>by
  simp only [chunks,CJ] at h
  have hl':n*sz≤(cs.drop sz).length:=by grind
  obtain ⟨h2,h3,h4⟩:=kU sz hsz ((by grind)) hl' h
  grind [List.drop_drop,jk,fe]
theorem au.qx{k:Key}{off nd sz:Nat}{cs es:List AV}{t:TypeId}(h:au C st a w σ)(hkd:k.dp=C.E.dp)(hb:aO st.bx k.d=some cs)(hz:cs[off]? =some (.o t es))(hne:es≠[])
  (hnc:∀ e∈es,e.nc=sz) (hno:xh C.E.dp (st.aK C.E.dp k (cs.set off .u)) t nd=true) :
  ∃ σ',cK C w σ w σ'∧au C ((({(st.aK C.E.dp k (cs.set off .u)) with bx:=(nd,es.flatMap AV.cl)::(st.aK C.E.dp k (cs.set off .u)).bx} : St).aX (.c k off)).aK C.E.dp k ((cs.set off .u).set off (.sp ⟨C.E.dp,nd⟩ 0 es.length sz))) a w σ':=by
 have hb':st.box C.E.dp k=some cs:=by simp [St.box,hkd,hb]
 obtain ⟨vs,T,hB⟩:=h.bx k cs hb'
 have ho:OwnAt C.P C.W w σ (.rowC k off) ((Pl.c k off).jr C.E=true) t es (vs.getD off undef):=hB.cell _ _ hz
 rcases ho with ⟨rfl,_⟩ | ⟨g,cap,cs',hv,hR⟩
 ·grind
 obtain ⟨h1,hi⟩:=h.Dn (pl:=.c k off) (st':=st.aK C.E.dp k (cs.set off .u)) (by simp [St.putAt,hb'])
 have h2:=h1.relabel (M:=.box ⟨C.E.dp,nd⟩) hR.ow hi
 simp only [xh,aB,cE] at hno
 have hsz:sz=C.P.cellsOf t:=by
  cases es with
  | nil=>grind
  | cons e es=>exact (hnc e (by simp)).symm.trans (hR.nc e (by simp))
 have hWg:C.W g:=hR.wr (AH hkd)
 have h3:=h2.agP (d:=nd) (cs:=es.flatMap AV.cl) (vs:=cs') (T:=t) (g:=g) (ow':=fun b=>if b=g then some (.box ⟨C.E.dp,nd⟩) else σ.ow b) (fun b l hb _=>hb) (fun b l hb=>h2.own b l hb) (fun b hb=>(h2.bS b hb).2)
  hR.hh ⟨fun _=>hno.1.1.2.symm,hR.base⟩ (by rw [L2 sz hnc,hR.size,hsz];exact fk _ hR.ecap) (by simp) hWg (fun c hc=>by
   obtain ⟨e,he,hce⟩:=CO.1 hc
   exact .inl (hR.one e he c hce)) (fun i c hc=>by
   obtain ⟨j,m,e,he,hm,rfl⟩:=flat_get sz hnc hc
   have hp:=jX (hR.pure e (aP he)) c (aP hm)
   have hcell:=hR.cell j e m c he hm
   rw [←hsz] at hcell
   cases c with
   | o t' es'=>cases hp
   | _=>exact ⟨hp,hcell⟩)
  (s8 rfl _ hno.1.2) (fun d' cs2 hb2 c hc=>n9 (qw _ hno.2 d' cs2 hb2) c hc)
 have hnd:nd≠k.d:=by
  intro e
  have h4:aO (st.aK C.E.dp k (cs.set off .u)).bx nd=none:=by simp_all
  have h5:=iK (cs':=cs.set off .u) hb' k
  rw [aa rfl] at h5
  simp only [St.box,hkd,an] at h5
  rw [e] at h4
  rw [h5] at h4;cases h4
 have hkk:k≠⟨C.E.dp,nd⟩:=fun e=>hnd (by rw [e])
 have hb4:(({(st.aK C.E.dp k (cs.set off .u)) with bx:=(nd,es.flatMap AV.cl)::(st.aK C.E.dp k (cs.set off .u)).bx} : St).aX (.c k off)).box C.E.dp k=some (cs.set off .u):=by
  rw [Dg]
  have h5:=iK (cs':=cs.set off .u) hb' k
  rw [aa rfl] at h5
  simp only [St.box,hkd,an,aO,ab hnd] at h5 ⊢
  exact h5
 have h5:=(h3.aX (.c k off)).Dp (x:=.sp ⟨C.E.dp,nd⟩ 0 es.length sz) (off:=off) hb4 ((by grind)) rfl (fun hne=>absurd hkd hne) (fun d'=>jJ _ _ _) (fun vs' T' hh=>by
  simp only [ab hkk] at hh
  have hh:w.heap[σ.κ k]? =some (.cells vs' T' (0,0)):=hh
  rw [hB.hh] at hh
  simp only [jm,Obj.cells.injEq] at hh
  rw [←hh.1,hv]
  have:=VR.sp (w:=w) (I:=σ.I) (κ:=fun k=>if k=⟨C.E.dp,nd⟩ then g else σ.κ k) ⟨C.E.dp,nd⟩ 0 es.length sz cap hR.ecap hR.max
  simp only [an] at this
  exact this)
 refine ⟨⟨fun k=>if k=⟨C.E.dp,nd⟩ then g else σ.κ k,fun b=>if b=g then some (dL.box ⟨C.E.dp,nd⟩) else σ.ow b,σ.I⟩,⟨aT _,fun _ _ _=>rfl,fun _ h=>h,fun _ _=>rfl,fun _ h=>.inl h,fun k' hk'=>?_,fun b _ hW=>?_,rfl,rfl⟩,h5⟩
 ·grind
 grind
theorem AI{bx:List (Nat×List AV)}{d e:Nat}(h:e≠d):aO (bx.filter fun y=>y.1 !=d) e=aO bx e:=by
 induction bx with
 | nil=>rfl
 | cons z bx ih=>
  grind [aO]
theorem AJ{bx:List (Nat×List AV)}{d:Nat} : aO (bx.filter fun y=>y.1 !=d) d=none:=by
 induction bx with
 | nil=>rfl
 | cons z bx ih=>
  grind [aO]
theorem au.agQ{k k2:Key}{off n sz:Nat}{cs cs2:List AV}(h:au C st a w σ)(hkd:k.dp=C.E.dp)(hb:aO st.bx k.d=some cs)(hz:cs[off]? =some (.sp k2 0 n sz))(hk2:k2.dp=C.E.dp)(hne:k2≠k)
  (hb2:aO st.bx k2.d=some cs2) (hp:AV.bk cs2=true) (hsz:0<sz) (hle:n*sz≤cs2.length) :
  ∃ σ',cK C w σ w σ'∧au C ((({st with bx:=st.bx.filter fun y=>y.1 !=k2.d} : St).aX (.c k off)).aK C.E.dp k (cs.set off (.l (rY k2.d) (chunks sz n cs2)))) a w σ':=by
 have hb':st.box C.E.dp k=some cs:=by simp [St.box,hkd,hb]
 have hb2':st.box C.E.dp k2=some cs2:=by simp [St.box,hk2,hb2]
 obtain ⟨vs,T,hB⟩:=h.bx k cs hb'
 obtain ⟨vs2,T2,hB2⟩:=h.bx k2 cs2 hb2'
 have hdd:k.d≠k2.d:=fun e=>hne (by cases k;cases k2;grind)
 have hpl:=fe hp
 have hone:∀ c∈cs2,c.one=true:=fun c hc=>(hB2.one c hc).resolve_right fun e=>by have:=hpl c hc;rw [e] at this;cases this
 have h1:au C {st with bx:=st.bx.filter fun y=>y.1 !=k2.d} a w σ:=by
  refine h.BG (fun _=>.inr rfl) (fun k' cs' hk=>?_) (fun _ _ _ h=>h)
  by_cases hd:k'.dp=C.E.dp
  ·simp only [St.box,hd,an] at hk ⊢
   by_cases he:k'.d=k2.d
   ·grind [AJ]
   simp_all [AI]
  grind [St.box]
 have hgone:({st with bx:=st.bx.filter fun y=>y.1 !=k2.d} : St).box C.E.dp k2=none:=by
  grind [St.box,AJ]
 have hi:Idle C {st with bx:=st.bx.filter fun y=>y.1 !=k2.d} (some (.box k2)):=
  ⟨fun _ _ _ _=>by simp,by grind,fun _ _ _ _ _ _ _=>by simp,fun _=>by simp,by simp⟩
 have h2:=h1.PJ hB2.ow hi
 have hW:C.W (σ.κ k2):=hB2.wr (AH hk2)
 have hb4:(({st with bx:=st.bx.filter fun y=>y.1 !=k2.d} : St).aX (.c k off)).box C.E.dp k=some cs:=by
  rw [Dg]
  simp_all [St.box,AI]
 refine ⟨_,.eH hW,(h2.aX (.c k off)).Dp (x:=.l (rY k2.d) (chunks sz n cs2)) (off:=off) hb4 ((by grind)) rfl (fun hne=>absurd hkd hne) (fun d'=>jJ _ _ _) (fun vs' T' hh=>?_)⟩
 have hh':w.heap[σ.κ k]? =some (.cells vs' T' (0,0)):=hh
 rw [hB.hh] at hh'
 simp only [jm,Obj.cells.injEq] at hh'
 rw [←hh'.1]
 have hcell:VR w σ.I σ.κ (.sp k2 0 n sz) (vs.getD off undef):=hB.cell off _ hz
 generalize vs.getD off undef=v at hcell
 cases hcell with
 | sp _ _ _ _ cap hc1 hc2=>
  show VR w _ _ _ _
  have hlen:=BH sz n cs2
  have hT:rY k2.d≠0→(bI.n0≤σ.κ k2→T2=rY k2.d∧((0,0):Nat×Nat)=(0,0))∧(σ.κ k2<bI.n0→bI.tg (rY k2.d)=true):=by
   intro h
   unfold rY at h ⊢
   split at h
   ·rename_i hd
    rw [aa hd]
    exact ⟨fun _=>⟨hB2.kb.1 hd,rfl⟩,fun hlt=>absurd hB2.kb.2 (by omega)⟩
   grind
  have:=VR.l (w:=w) (I:=(σ.eH (σ.κ k2)).I) (κ:=σ.κ) (rY k2.d) (chunks sz n cs2) (σ.κ k2) 0 cap vs2 T2 (0,0) sz (.inr rfl) hB2.hh hT hsz (fun e he=>?_) ?_ (fun e he=>?_) (fun e he c hc=>?_) (by omega) hc2 (fun j e m c he hc=>?_)
  ·rw [hlen] at this;exact this
  ·obtain ⟨j,hj⟩:=dZ.1 he
   obtain ⟨h3,h4,_⟩:=kU sz hsz hone hle hj
   grind [AV.nc]
  ·rw [hlen];have:=hB2.size;omega
  ·obtain ⟨j,hj⟩:=dZ.1 he
   exact (kU sz hsz hone hle hj).2.2 hp
  ·obtain ⟨j,hj⟩:=dZ.1 he
   obtain ⟨h3,_,_⟩:=kU sz hsz hone hle hj
   grind
  ·obtain ⟨h3,_,_⟩:=kU sz hsz hone hle he
   rw [h3,eQ] at hc
   split at hc
   ·rw [gj] at hc
    have hcm:=aP hc
    rw [fi]
    exact (L1 (hpl c hcm) (hB2.cell _ c hc)).Dm (fun _ h=>.inl h) (fun _ _=>rfl) (hpl c hcm)
   ·cases hc
theorem au.abA{p:uF}{st':St}(h:au C st a w σ)(he:gb C.E st p=some st'):∃ σ',cK C w σ w σ'∧au C st' a w σ':=by
 cases p with
 | own d t=>
  simp only [gb] at he
  split at he
  ·rename_i hx
   obtain rfl:=ad he
   have hs:=h.fr d
   rw [hx] at hs
   have hv:=VR.Es hs
   refine ⟨σ,.refl _ _ _,(h.aX (.s d)).cS (.inl ⟨rfl,hv⟩) (fun _ _ _ d'=>jJ _ _ _) (L0 (x:=.n) h hv (by simp [undef]))⟩
  ·obtain rfl:=ad he
   exact ⟨σ,.refl _ _ _,h⟩
  ·cases he
 | fz d=>
  simp only [gb] at he
  split at he
  ·rename_i t es hx
   obtain rfl:=ad he
   have hs:=h.fr d
   rw [hx] at hs
   obtain ⟨σ',hst,hc,hv,_⟩:=(h.LX d).freeze (L:=.rowS C.E.dp d) hs ((by grind [vX,lg]))
   have:=hc.cS (d:=d) (x:=.l t es) hv (fun _ _ e=>by cases e) (Wh h hx)
   refine ⟨σ',hst,this.BG (fun d'=>.inr ?_) (fun _ _ h=>h) (fun _ _ _ h=>h)⟩
   grind [lg]
  ·cases he
 | ownC d off t=>
  simp only [gb] at he
  split at he
  ·rename_i k o hx
   split at he
   ·rename_i hm
    obtain ⟨cs,hb,he1⟩:=af.1 he
    clear he
    split at he1
    ·rename_i hcn
     obtain rfl:=ad he1
     refine ⟨σ,.refl _ _ _,(h.aX (.c k (o+off))).Dp hb ((by grind)) rfl (fun _=>rfl) (fun d'=>jJ _ _ _) fun vs T hh=>?_⟩
     obtain ⟨vs',T',hB⟩:=h.bx k cs hb
     have:=hB.cell _ _ hcn
     rw [hB.hh] at hh
     simp only [jm,Obj.cells.injEq] at hh
     rw [←hh.1]
     exact .inl ⟨rfl,VR.Es this⟩
    ·obtain rfl:=ad he1
     exact ⟨σ,.refl _ _ _,h⟩
    ·cases he1
   ·cases he
  ·cases he
 | fzC d off=>
  simp only [gb] at he
  split at he
  ·rename_i k o hx
   split at he
   ·rename_i hm
    obtain ⟨cs,hb,he1⟩:=af.1 he
    clear he
    split at he1
    ·rename_i t es hco
     obtain rfl:=ad he1
     obtain ⟨vs,T,hB⟩:=h.bx k cs hb
     have ho:OwnAt C.P C.W w σ (.rowC k (o+off)) ((Pl.c k (o+off)).jr C.E=true) t es (vs.getD (o+off) undef):=hB.cell _ _ hco
     obtain ⟨h1,hi⟩:=h.Dn (pl:=.c k (o+off)) (st':=st.aK C.E.dp k (cs.set (o+off) .u)) (by simp [St.putAt,hb])
     obtain ⟨σ',hst,hc,hv,hkap⟩:=h1.freeze (ho.Di fun _=>hm) hi
     have hbx1:(st.aK C.E.dp k (cs.set (o+off) .u)).box C.E.dp k=some (cs.set (o+off) .u):=by grind [iK]
     have hcell:(cs.set (o+off) AV.u)[o+off]? =some .u:=by
      grind
     have h2:=(hc.aX (.c k (o+off))).Dp (x:=.l t es) (off:=o+off) (cs:=cs.set (o+off) .u) hbx1 ((by grind)) rfl (fun _=>rfl) (fun d'=>jJ _ _ _) (fun vs' T' hh=>by
      rw [hkap,hB.hh] at hh
      simp only [jm,Obj.cells.injEq] at hh
      rw [←hh.1]
      exact hv)
     rw [set_set] at h2
     refine ⟨σ',hst,?_⟩
     have e1:((st.aK C.E.dp k (cs.set (o+off) .u)).aX (.c k (o+off))).aK C.E.dp k (cs.set (o+off) (.l t es))=
       (st.aK C.E.dp k (cs.set (o+off) (.l t es))).aX (.c k (o+off)):=by
      have:=Kq C.E.dp st k (cs.set (o+off) .u) (cs.set (o+off) (.l t es))
      unfold St.aX
      unfold St.aK at this ⊢
      split
      ·rename_i hd;simp only [aa hd,JS]
      ·rename_i hd
       simp only [ab hd]
       congr 1
       funext k'
       simp only [aG]
       split<;>rfl
     rw [e1] at h2
     refine ⟨h2.size,h2.defers,fun d'=>?_,h2.bx,h2.hpd,h2.own,h2.bS,h2.new,h2.lay⟩
     have hnr:(st.aK C.E.dp k (cs.set (o+off) (.l t es))).rowAt C.E.dp (.c k (o+off))=none:=by
      grind [St.rowAt,iK]
     by_cases hbb:(ay (st.aK C.E.dp k (cs.set (o+off) (.l t es))).fr d').jf (.c k (o+off))=true
     ·cases hy:ay (st.aK C.E.dp k (cs.set (o+off) (.l t es))).fr d'<;>rw [hy] at hbb<;>simp [AV.jf] at hbb
      ·subst hbb;intro hs;grind
      ·subst hbb;intro t' es' hs;grind
      ·subst hbb;intro t' es' hs;grind
     ·have:=h2.fr d'
      have e2:ay ((st.aK C.E.dp k (cs.set (o+off) (.l t es))).aX (.c k (o+off))).fr d'=ay (st.aK C.E.dp k (cs.set (o+off) (.l t es))).fr d':=by
       grind [St.aX,mF]
      rw [e2] at this
      exact this.FI (by grind [Nt])
    ·obtain rfl:=ad he1
     exact ⟨σ,.refl _ _ _,h⟩
    ·obtain rfl:=ad he1
     exact ⟨σ,.refl _ _ _,h.LZ hb⟩
    ·obtain rfl:=ad he1
     exact ⟨σ,.refl _ _ _,h⟩
    ·cases he1
   ·cases he
  ·cases he
 | fzB d agg=>
  simp only [gb] at he
  split at he
  ·rename_i k hx
   split at he
   ·rename_i hkd
    obtain ⟨cs,hb,he1⟩:=af.1 he
    clear he
    split at he1
    ·rename_i hp
     have hb':st.box C.E.dp k=some cs:=by simp [St.box,hkd,hb]
     obtain ⟨vs,T,hB⟩:=h.bx k cs hb'
     have hs:=h.fr d
     rw [hx] at hs
     have hv:=VR.xm hs
     have hpl:=fe hp
     have hno:∀ c∈cs,∀ t es,c≠.o t es:=fun c hc t es e=>by have:=hpl c hc;rw [e] at this;cases this
     have hone:∀ c∈cs,c.one=true:=fun c hc=>(hB.one c hc).resolve_right fun e=>by have:=hpl c hc;rw [e] at this;cases this
     have h1:au C {st with bx:=st.bx.filter fun y=>y.1 !=k.d} a w σ:=by
      refine h.BG (fun _=>.inr rfl) (fun k' cs' hk=>?_) (fun _ _ _ h=>h)
      by_cases hd:k'.dp=C.E.dp
      ·simp only [St.box,hd,an] at hk ⊢
       have hf:∀ bx:List (Nat×List AV),aO (bx.filter fun y=>y.1 !=k.d) k'.d=some cs'→aO bx k'.d=some cs':=by
        intro bx
        induction bx with
        | nil=>exact id
        | cons z bx ih=>
         intro hz
         simp only [List.filter_cons] at hz
         split at hz
         ·grind [aO]
         ·rename_i hne
          simp only [aO]
          split
          ·rename_i e
           exfalso
           have h3:z.1=k.d:=by simpa using hne
           have hf2:∀ bx:List (Nat×List AV),aO (bx.filter fun y=>y.1 !=k.d) k.d=none:=by
            intro bx
            induction bx with
            | nil=>rfl
            | cons y bx ih=>
             grind [aO]
           grind
          ·exact ih hz
       exact hf _ hk
      grind [St.box]
     have hgone:({st with bx:=st.bx.filter fun y=>y.1 !=k.d} : St).box C.E.dp k=none:=by
      simp only [St.box,hkd,an]
      have hf2:∀ bx:List (Nat×List AV),aO (bx.filter fun y=>y.1 !=k.d) k.d=none:=by
       intro bx
       induction bx with
       | nil=>rfl
       | cons y bx ih=>
        grind [aO]
      exact hf2 _
     have hi:Idle C {st with bx:=st.bx.filter fun y=>y.1 !=k.d} (some (.box k)):=
      ⟨fun _ _ _ _=>by simp,by grind,fun _ _ _ _ _ _ _=>by simp,fun _=>by simp,by simp⟩
     have h2:=h1.PJ hB.ow hi
     have hW:C.W (σ.κ k):=hB.wr (AH hkd)
     have hlt:d<C.nt:=L0 (x:=.p k 0) h hv (by simp [undef])
     have hfin:∀ x:AV,x.cl=cs→x.pure=true→(∀ t es,x≠.o t es)→au C {(st.cS d (.e x 0)) with bx:=st.bx.filter fun y=>y.1 !=k.d} a w (σ.eH (σ.κ k)):=by
      intro x hcl hxp _
      refine h2.cS (d:=d) (x:=.e x 0) ?_ (fun _ _ e=>by cases e) hlt
      rw [hv]
      have:=VR.e (w:=w) (I:=(σ.eH (σ.κ k)).I) (κ:=(σ.eH (σ.κ k)).κ) x 0 (σ.κ k) 0 vs T (0,0) (.inr rfl) hB.hh hxp (by unfold AV.nc;rw [hcl];have:=hB.size;omega) (by grind) (fun m c hm=>by
       rw [hcl] at hm
       rw [fi]
       have hcm:=aP hm
       exact (L1 (hpl c hcm) (hB.cell m c hm)).Dm (fun _ h=>.inl h) (fun _ _=>rfl) (hpl c hcm))
      exact this
     split at he1
     ·obtain rfl:=ad he1
      exact ⟨_,.eH hW,hfin (.a cs) rfl (jk hpl) (fun _ _ e=>by cases e)⟩
     ·split at he1
      ·rename_i c
       obtain rfl:=ad he1
       have hc1:=hone c (by simp)
       have hcl:c.cl=[c]:=by cases c<;>first | rfl | (simp [AV.one] at hc1)
       exact ⟨_,.eH hW,by grind⟩
      ·cases he1
    ·cases he1
   ·cases he
  ·cases he
 | qx d off nd sz=>
  simp only [gb] at he
  split at he
  ·rename_i k o hx
   split at he
   ·rename_i hkd
    obtain ⟨cs,hb,he1⟩:=af.1 he
    clear he
    have hb':st.box C.E.dp k=some cs:=by simp [St.box,hkd,hb]
    split at he1
    ·rename_i t es hco
     split at he1
     ·rename_i hem
      obtain rfl:=ad he1
      obtain rfl:es=[]:=by simpa using hem
      obtain ⟨vs,T,hB⟩:=h.bx k cs hb'
      have ho:OwnAt C.P C.W w σ (.rowC k (o+off)) ((Pl.c k (o+off)).jr C.E=true) t [] (vs.getD (o+off) undef):=hB.cell _ _ hco
      obtain ⟨h1,hi⟩:=h.Dn (pl:=.c k (o+off)) (st':=st.aK C.E.dp k (cs.set (o+off) .u)) (by simp [St.putAt,hb'])
      have hb1:((st.aK C.E.dp k (cs.set (o+off) .u)).aX (.c k (o+off))).box C.E.dp k=some (cs.set (o+off) .u):=by grind [Dg,iK]
      refine ⟨σ,.refl _ _ _,(h1.aX (.c k (o+off))).Dp (x:=.l t []) (off:=o+off) hb1 ((by grind)) rfl (fun _=>rfl) (fun d'=>jJ _ _ _) (fun vs' T' hh=>?_)⟩
      rw [hB.hh] at hh
      simp only [jm,Obj.cells.injEq] at hh
      rw [←hh.1]
      rcases ho with ⟨_,hv⟩ | ⟨g,cap,cs',hv,_⟩
      ·rw [hv];exact VR.lnil _ _ _
      ·rw [hv];exact VR.lnil _ _ _
     ·rename_i hem
      split at he1
      ·rename_i hc
       obtain rfl:=ad he1
       simp only [aB] at hc
       exact h.qx hkd hb hco (fun e=>hem (by simp [e])) ((by grind)) hc.2
      ·cases he1
    ·obtain rfl:=ad he1
     exact ⟨σ,.refl _ _ _,h⟩
    ·cases he1
   ·cases he
  ·cases he
 | unp d off=>
  simp only [gb] at he
  split at he
  ·rename_i k o hx
   split at he
   ·rename_i hkd
    obtain ⟨cs,hb,he1⟩:=af.1 he
    clear he
    split at he1
    ·rename_i k2 n sz hco
     split at he1
     ·rename_i hk2
      obtain ⟨cs2,hb2,he2⟩:=af.1 he1
      split at he2
      ·rename_i hc
       obtain rfl:=ad he2
       simp only [aB,cE] at hc
       exact h.agQ hkd hb hco hk2.1 hk2.2 hb2 hc.1.1 hc.1.2 hc.2
      ·cases he2
     ·cases he1
    ·obtain rfl:=ad he1
     exact ⟨σ,.refl _ _ _,h⟩
    ·cases he1
   ·cases he
  ·cases he
theorem au.pre:∀ (ps:List uF){st st':St}{σ:Sp},au C st a w σ→qZ C.E st ps=some st'→∃ σ',cK C w σ w σ'∧au C st' a w σ'
 | [],st,st',σ,h,he=>by obtain rfl:=ad he;exact ⟨σ,.refl _ _ _,h⟩
 | p::ps,st,st',σ,h,he=>by
  obtain ⟨st1,h1,h2⟩:=af.1 he
  obtain ⟨σ1,hs1,hc1⟩:=h.abA h1
  obtain ⟨σ2,hs2,hc2⟩:=au.pre ps hc1 h2
  exact ⟨σ2,hs1.trans hs2,hc2⟩
end
end Go.Proofs.YtkkkkondjclcnaaGreat.A
