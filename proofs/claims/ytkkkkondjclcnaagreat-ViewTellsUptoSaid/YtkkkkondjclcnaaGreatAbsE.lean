/- append: the model does what the abstract run says. -/
import Derived.Test.YtkkkkondjclcnaaGreatAbsA
set_option linter.all false
namespace Go.Proofs.YtkkkkondjclcnaaGreat.A
open Go
variable [bJ]
structure Flat(w:World)(I:Nat→Prop)(κ:Key→Nat)(sz:Nat)(es:List AV)(vs:List Value):Prop where
 len:vs.length=es.length*sz
 nc:∀ e∈es,e.nc=sz
 pure:∀ e∈es,e.pure=true
 one:∀ e∈es,∀ c∈e.cl,c.one=true
 cell:∀ (j:Nat)(e:AV)(m:Nat)(c:AV),es[j]? =some e→e.cl[m]? =some c→VR w I κ c (vs[j*sz+m]?.getD undef)
section
variable {w:World}{I:Nat→Prop}{κ:Key→Nat}{sz:Nat}
theorem Ar{e:AV}{j m n:Nat}(hj:j<n)(hm:m<e.cl.length)(he:e.nc=sz):j*sz+m<n*sz:=by
 have:(j+1)*sz≤n*sz:=fv _ hj
 rw [da] at this
 have he':e.cl.length=sz:=he
 omega
theorem Flat.nil:Flat w I κ sz [] []:=⟨by simp,by simp,by simp,by simp,fun j e m c h=>by simp at h⟩
theorem Flat.append{es fs:List AV}{vs us:List Value}(h:Flat w I κ sz es vs)(h':Flat w I κ sz fs us):Flat w I κ sz (es++fs) (vs++us):=by
 refine ⟨by simp [h.len,h'.len,da],fun e he=>?_,fun e he=>?_,fun e he=>?_,fun j e m c hj hm=>?_⟩
 ·rcases bU.1 he with he | he
  ·exact h.nc e he
  ·exact h'.nc e he
 ·rcases bU.1 he with he | he
  ·exact h.pure e he
  ·exact h'.pure e he
 ·rcases bU.1 he with he | he
  ·exact h.one e he
  ·exact h'.one e he
 ·have hml:=cB hm
  rw [kv] at hj
  split at hj
  ·rename_i hlt
   have:=Ar hlt hml (h.nc e (aL hj))
   rw [kv,ab (by rw [h.len];exact this)]
   exact h.cell j e m c hj hm
  ·rename_i hge
   have hle:es.length*sz≤j*sz:=fv _ (by omega)
   rw [kv,ad (by rw [h.len];omega),h.len]
   have:=h'.cell (j - es.length) e m c hj hm
   rw [Nat.sub_mul] at this
   rwa [show j*sz+m - es.length*sz=j*sz - es.length*sz+m by omega]
theorem Flat.abT{es:List AV}{vs:List Value}(h:Flat w I κ sz es vs):∀ u∈vs,u.oneCell'=true:=by
 intro u hu
 obtain ⟨i,hi⟩:=ec.1 hu
 have hil:=cB hi
 rw [h.len] at hil
 have hpos:0<sz:=Nat.pos_of_ne_zero fun e=>by subst e;simp at hil
 have hj:i / sz<es.length:=Nat.div_lt_of_lt_mul (by rw [kz];exact hil)
 have hm:i % sz<sz:=Nat.mod_lt _ hpos
 have he:=cq hj
 have hml:i % sz<(es[i / sz]).cl.length:=by
  have:(es[i / sz]).cl.length=sz:=h.nc _ he
  omega
 have:=h.cell _ _ _ _ (aB hj) (aB hml)
 rw [kz,Nat.div_add_mod,hi] at this
 exact this.Ix (h.one _ he _ (cq hml))
theorem Flat.Fq{es:List AV}{cs:Array Value}{o:Nat}(hnc:∀ e∈es,e.nc=sz)(hp:∀ e∈es,e.pure=true)(h1:∀ e∈es,∀ c∈e.cl,c.one=true)(hs:o+es.length*sz≤cs.size)
  (hc:∀ (j:Nat)(e:AV)(m:Nat)(c:AV),es[j]? =some e→e.cl[m]? =some c→VR w I κ c (cs.getD (o+j*sz+m) undef)):Flat w I κ sz es ((cs.toList.drop o).take (es.length*sz)):=by
 refine ⟨by simp;omega,hnc,hp,h1,fun j e m c hj hm=>?_⟩
 have:=Ar (cB hj) (cB hm) (hnc e (aL hj))
 have hv:=hc j e m c hj hm
 rw [eV,ab this,gx]
 rw [qa] at hv
 simpa [bn] using hv
theorem Br{g o n:Nat}{cs:Array Value}{T:TypeId}{fz:Nat×Nat}(hh:w.heap[g]? =some (.cells cs T fz)):∀ j u,((cs.toList.drop o).take n)[j]? =some u→w.cell? ((⟨g,o,none⟩:Addr).add j)=some u:=by
 intro j u hj
 rw [add_lit,uX hh]
 rw [eV] at hj
 split at hj
 ·rw [gx] at hj
  simpa using hj
 ·cases hj
end
section
variable {C:Cx}{st:St}{a:Act}{w:World}{σ:Sp}{o:Oper}{d:Option Nat}{R:Rec}{Ω:du}{r:AV×St}
theorem fg.flat{L:dz}{wp:Prop}{t:TypeId}{es:List AV}{g cap:Nat}{cs:Array Value}(hR:fg C.P C.W w σ L wp t es g cap cs):Flat w σ.I σ.κ (C.P.cellsOf t) es ((cs.toList.drop 0).take (es.length*C.P.cellsOf t)):=
 .Fq hR.nc hR.pure hR.one (by rw [hR.size,eU];exact fv _ hR.ecap) (fun j e m c hj hm=>by rw [eU];exact hR.cell j e m c hj hm)
theorem Flat.part{sz lo len:Nat}{es:List AV}{vs:List Value}{I:Nat→Prop}{κ:Key→Nat}(h:Flat w I κ sz es vs)(hle:lo+len≤es.length):Flat w I κ sz ((es.drop lo).take len) ((vs.drop (lo*sz)).take (len*sz)):=by
 have hm:∀ e∈(es.drop lo).take len,e∈es:=fun e he=>fu (eI he)
 refine ⟨?_,fun e he=>h.nc e (hm e he),fun e he=>h.pure e (hm e he),fun e he=>h.one e (hm e he),fun j e m c hj hq=>?_⟩
 ·have:(lo+len)*sz≤es.length*sz:=fv _ hle
  rw [da] at this
  have e1:min len (es.length - lo)=len:=by omega
  simp [h.len,e1];omega
 ·rw [eV] at hj
  split at hj
  ·rename_i hlt
   rw [gx] at hj
   have:=Ar hlt (cB hq) (h.nc e (aL hj))
   rw [eV,ab this,gx]
   have hv:=h.cell _ e m c hj hq
   rwa [da,qa] at hv
  ·cases hj
theorem au.src(h:au C st a w σ){y:Operand}{x:ba}{q:TypeId×List AV}{sz:Nat}{tx e':TypeId}(hk:C.P.underlying tx=some (.slice e'))(hl:bK y x=true)(he:st.elems C.E.dp (st.ev x)=some q)(hnc:∀ e∈q.2,e.nc=sz) :
  ∃ news,Src C.P sz tx (a.eval y) q.2.length news w∧Flat w σ.I σ.κ sz q.2 news∧(q.2≠[]→∃ b n c,a.eval y= .slice (some b) n c∧n=q.2.length∧∀ j u,news[j]? =some u→w.cell? (b.add j)=some u):=by
 have hnil:∀ A c,a.eval y= .slice A 0 c→q.2=[]→∃ news,Src C.P sz tx (a.eval y) q.2.length news w∧Flat w σ.I σ.κ sz q.2 news∧(q.2≠[]→∃ b n c,a.eval y= .slice (some b) n c∧n=q.2.length∧∀ j u,news[j]? =some u→w.cell? (b.add j)=some u):=by
  intro A c hv hq
  refine ⟨[],?_,by rw [hq];exact .nil,fun hne=>absurd hq hne⟩
  rw [hv,hq]
  cases A with
  | none=>exact Src.ofNil w hk c
  | some b=>exact Src.ofSlice w hk b 0 c [] (by simp) (fun j u hj=>by simp at hj) (fun u hu=>by cases hu)
 have hsome:∀ b n c news,a.eval y= .slice (some b) n c→n=q.2.length→Flat w σ.I σ.κ sz q.2 news→(∀ j u,news[j]? =some u→w.cell? (b.add j)=some u)→
   ∃ news,Src C.P sz tx (a.eval y) q.2.length news w∧Flat w σ.I σ.κ sz q.2 news∧(q.2≠[]→∃ b n c,a.eval y= .slice (some b) n c∧n=q.2.length∧∀ j u,news[j]? =some u→w.cell? (b.add j)=some u):=by
  intro b n c news hv hn hf hcell
  refine ⟨news,?_,hf,fun _=>⟨b,n,c,hv,hn,hcell⟩⟩
  rw [hv,hn]
  exact Src.ofSlice w hk b _ c news hf.len hcell hf.abT
 have hrow:∀ pl t es,st.rowAt C.E.dp pl=some (t,es)→a.eval y=fS w σ a pl→q=(t,es)→
   ∃ news,Src C.P sz tx (a.eval y) q.2.length news w∧Flat w σ.I σ.κ sz q.2 news∧(q.2≠[]→∃ b n c,a.eval y= .slice (some b) n c∧n=q.2.length∧∀ j u,news[j]? =some u→w.cell? (b.add j)=some u):=by
  intro pl t es hr hv hq
  subst hq
  rcases h.row hr with ⟨h1,h2⟩ | ⟨g,cap,cs,h2,hR⟩
  ·exact hnil none 0 (hv.trans h2) h1
  ·by_cases hne:es=[]
   ·exact hnil (some ⟨g,0,none⟩) cap (by rw [hv,h2,hne];rfl) hne
   ·have hsz:C.P.cellsOf t=sz:=by
     cases es with
     | nil=>exact absurd rfl hne
     | cons e es=>exact (hR.nc e (by simp)).symm.trans (hnc e (by simp))
    have hf:=hR.flat
    rw [hsz] at hf
    exact hsome _ _ cap _ (hv.trans h2) rfl hf (Br hR.hh)
 cases hx:st.ev x with
 | l t es=>
  rw [hx] at he
  obtain rfl:=aa he
  obtain ⟨A,cap,hv,hes⟩:=(hx▸h.eM hl (by rw [hx];simp) (by rw [hx];rfl)).K3
  rcases hes with hes | ⟨g,o,cs,T,fz,sz',rfl,hI,hh,ht,hpos,hnc',hsize,hp,h1,hcap,hmax,hc⟩
  ·subst hes
   exact hnil A cap hv rfl
  ·by_cases hne:es=[]
   ·subst hne;exact hnil _ cap hv rfl
   ·have hsz:sz'=sz:=by
     cases es with
     | nil=>exact absurd rfl hne
     | cons e es=>exact (hnc' e (by simp)).symm.trans (hnc e (by simp))
    subst hsz
    exact hsome _ _ cap _ hv rfl (.Fq hnc' hp h1 hsize hc) (Br hh)
 | n=>
  rw [hx] at he
  obtain rfl:=aa he
  exact hnil none 0 (hx▸h.eM hl (by rw [hx];simp) (by rw [hx];rfl)).Ec rfl
 | o t es=>
  rw [hx] at he
  obtain rfl:=aa he
  obtain ⟨n,rfl,hn⟩:=dR hx rfl hl
  exact hrow (.s n) t es (by simp [St.rowAt,hn]) (by rw [Ap hl];rfl) rfl
 | r pl=>
  rw [hx] at he
  obtain ⟨n,rfl,hn⟩:=dR hx rfl hl
  have hr:st.rowAt C.E.dp pl=some q:=he
  exact hrow pl q.1 q.2 hr ((hn▸h.slot hl) (by rw [hr];rfl)) rfl
 | v pl lo len=>
  rw [hx] at he
  obtain ⟨n,rfl,hn⟩:=dR hx rfl hl
  simp only [St.elems] at he
  split at he
  ·rename_i t es hr
   split at he
   ·rename_i hll
    obtain rfl:=aa he
    obtain ⟨A,n',cap,hpv,hv⟩:=(hn▸h.slot hl) t es hr hll
    have hlen:((es.drop lo).take len).length=len:=by simp;omega
    by_cases hne:len=0
    ·subst hne
     refine hnil _ _ hv (by simp)
    ·obtain ⟨g,cap',cs,hpv',hR⟩:=h.Bm hr (fun e=>by subst e;simp at hll;omega)
     obtain ⟨rfl,rfl,rfl⟩:A=some ⟨g,0,none⟩∧n'=es.length∧cap=cap':=by
      rw [hpv] at hpv';simpa using hpv'
     have hec:=hR.ecap
     have hsz:C.P.cellsOf t=sz:=by
      cases hq:(es.drop lo).take len with
      | nil=>rw [hq] at hlen;simp at hlen;omega
      | cons e fs=>
       have he:e∈(es.drop lo).take len:=by rw [hq];simp
       exact (hR.nc e (fu (eI he))).symm.trans (hnc e he)
     rw [ad (by omega),hsz] at hv
     simp only [gv,add_lit,eU] at hv
     refine hsome ⟨g,lo*sz,none⟩ len (cap - lo) ((cs.toList.drop (lo*sz)).take (((es.drop lo).take len).length*sz)) hv hlen.symm ?_ (Br hR.hh)
     refine .Fq hnc (fun e he=>hR.pure e (fu (eI he))) (fun e he=>hR.one e (fu (eI he))) ?_ fun j e m c hj hm=>?_
     ·rw [hlen,hR.size,hsz,←da]
      exact fv _ (by omega)
     ·rw [eV] at hj
      split at hj
      ·rw [gx] at hj
       have:=hR.cell _ e m c hj hm
       rwa [hsz,da] at this
      ·cases hj
   ·cases he
  ·cases he
 | _=>rw [hx] at he;cases he
theorem au.LM{k:Key}{cs:List AV}{off:Nat}(h:au C st a w σ)(hb:st.box C.E.dp k=some cs):au C (st.aK C.E.dp k (cs.set off .u)) a w σ:=by
 have hbox:=fun k'=>iP (cs':=cs.set off .u) hb k'
 have hget:∀ (i:Nat)(c:AV),(cs.set off AV.u)[i]? =some c→c=AV.u∨cs[i]? =some c:=by
  intro i c hi
  rw [kx] at hi
  split at hi
  ·split at hi
   ·exact .inl (aa hi).symm
   ·cases hi
  ·exact .inr hi
 refine ⟨h.size,h.defers,fun d=>?_,fun k' cs' hk=>?_,fun k' cs' hk hc'=>?_,h.own,h.bT,h.new,h.lay⟩
 ·rw [oh]
  refine (h.fr d).Fp fun pl _ ⟨r,hr⟩=>⟨?_,rfl⟩
  rw [hr]
  cases pl with
  | s d'=>rw [ra] at hr;exact hr.symm
  | c k' off'=>
   simp only [St.rowAt,hbox] at hr ⊢
   by_cases hk:k'=k
   ·subst hk
    simp only [aq] at hr
    cases hc:(cs.set off AV.u)[off']? with
    | none=>simp [hc] at hr
    | some c=>
     rw [hc] at hr
     rcases hget _ _ hc with rfl | h2
     ·simp at hr
     ·simp only [hb,h2];exact hr.symm
   ·simp only [ad hk] at hr
    exact hr.symm
 ·rw [hbox] at hk
  by_cases hkk:k'=k
  ·subst hkk
   simp only [aq] at hk
   obtain rfl:=aa hk
   obtain ⟨vs,T,hB⟩:=h.bx k' cs hb
   refine ⟨vs,T,hB.hh,by simpa using hB.size,hB.ow,hB.wr,fun c hm=>?_,fun i c hi=>?_,fun t kk u ht=>(iH ht).elim (fun hm=>by simpa using hB.ty t kk u hm) (fun e=>by cases e),hB.kb⟩
   ·rcases iH hm with hm | rfl
    ·exact hB.one c hm
    ·exact .inr rfl
   ·rcases hget i c hi with rfl | h2
    ·exact VR.u _
    ·exact hB.cell i c h2
  ·simp only [ad hkk] at hk
   exact h.bx k' cs' hk
 ·by_cases hkd:k.dp=C.E.dp
  ·simp only [St.aK,hkd,aq] at hc'
   exact h.hpd k' cs' hk hc'
  ·simp only [St.aK,ad hkd,aF] at hc'
   split at hc'
   ·rename_i hkk
    subst hkk
    obtain rfl:=aa hc'
    have hold:=h.hpd k' cs hk (by simpa [St.box,hkd] using hb)
    refine ⟨hold.1,fun c hm=>?_⟩
    rcases iH hm with hm | rfl
    ·exact hold.2 c hm
    ·rfl
   ·exact h.hpd k' cs' hk hc'
theorem au.C8{pl:Pl}{st':St}(h:au C st a w σ)(hp:st.putAt C.E.dp .u pl=some st'):au C st' a w σ∧Idle C st' (some (pl.pD C.E.dp)):=by
 cases pl with
 | s d=>
  obtain rfl:=aa hp
  exact ⟨h.LK d,vZ fun t es=>by rw [lA,ab rfl];simp⟩
 | c k off=>
  simp only [St.putAt] at hp
  split at hp
  ·rename_i cs hb
   obtain rfl:=aa hp
   refine ⟨h.LM hb,⟨fun _ _ _ _=>by simp [Pl.pD],fun _ _ _=>by simp [Pl.pD],fun k' cs' off' t es hk hc e=>?_,fun _=>by simp [Pl.pD],by simp [Pl.pD]⟩⟩
   simp only [Pl.pD,ju,dz.rowC.injEq] at e
   obtain ⟨rfl,rfl⟩:=e
   rw [iP hb,ab rfl] at hk
   obtain rfl:=aa hk
   rw [kx] at hc
   simp at hc
  ·cases hp
theorem au.consume(h:au C st a w σ){y:Operand}{x:ba}{t:TypeId}{q:List AV×St}(hl:bK y x=true)(he:consume C.E st t x=some q) :
  au C q.2 a w σ∧((q.1=[]∧a.eval y= .slice none 0 0)∨
   ∃ L g cap cs,a.eval y= .slice (some ⟨g,0,none⟩) q.1.length cap∧fg C.P C.W w σ L True t q.1 g cap cs∧Idle C q.2 (some L)):=by
 have hfin:∀ {pl es st' v},au C st' a w σ→Idle C st' (some (Pl.pD C.E.dp pl))→OwnAt C.P C.W w σ (pl.pD C.E.dp) True t es v→a.eval y=v→q=(es,st')→
   au C q.2 a w σ∧((q.1=[]∧a.eval y= .slice none 0 0)∨∃ L g cap cs,a.eval y= .slice (some ⟨g,0,none⟩) q.1.length cap∧fg C.P C.W w σ L True t q.1 g cap cs∧Idle C q.2 (some L)):=by
  intro pl es st' v hc hi ho hv hq
  subst hq
  refine ⟨hc,?_⟩
  rcases ho with ⟨h1,h2⟩ | ⟨g,cap,cs,h2,hR⟩
  ·exact .inl ⟨h1,hv.trans h2⟩
  ·exact .inr ⟨_,g,cap,cs,hv.trans h2,hR,hi⟩
 unfold A.consume at he
 split at he
 ·obtain rfl:=aa he
  exact ⟨h,.inl ⟨rfl,(h.uG (x:=.c .n) hl rfl).Ec⟩⟩
 ·cases he
 ·rename_i m
  have hs:=h.slot hl
  split at he
  ·rename_i hx
   obtain rfl:=aa he
   rw [hx] at hs
   exact ⟨h,.inl ⟨rfl,VR.Ec hs⟩⟩
  ·rename_i t' es hx
   split at he
   ·rename_i htt
    subst htt
    rw [hx] at hs
    exact hfin (pl:=.s m) (h.LK m) (vZ fun t es=>by rw [lA,ab rfl];simp) hs rfl (aa he).symm
   ·cases he
  ·rename_i pl hx
   split at he
   ·rename_i hm
    obtain ⟨⟨t',es⟩,hr,he1⟩:=ah.1 he
    clear he
    simp only at he1
    split at he1
    ·rename_i htt
     subst htt
     obtain ⟨st',hp,he2⟩:=ah.1 he1
     clear he1
     obtain ⟨h1,h2⟩:=h.C8 hp
     rw [hx] at hs
     exact hfin h1 h2 ((h.row hr).C4 fun _=>hm) (hs (by rw [hr];rfl)) (aa he2).symm
    ·cases he1
   ·cases he
  ·rename_i pl lo len hx
   split at he
   ·rename_i hm
    simp only [aA,cS] at hm
    obtain ⟨hm,hlo⟩:=hm
    obtain ⟨⟨t',es⟩,hr,he1⟩:=ah.1 he
    clear he
    simp only at he1
    split at he1
    ·rename_i htt
     obtain ⟨hle,htt⟩:=htt
     obtain ⟨st',hp,he2⟩:=ah.1 he1
     clear he1
     obtain ⟨h1,h2⟩:=h.C8 hp
     rw [hx] at hs
     subst hlo
     have hv:=hs t' es hr (by omega)
     subst htt
     exact hfin h1 h2 (((h.row hr).short hle hv).C4 fun _=>hm) rfl (aa he2).symm
    ·cases he1
   ·cases he
  ·cases he
theorem abU{t sz by_:Nat}{x y:ba}(h:au C st a w σ)(hl:bC C.P (.ap t sz by_ x y) o.op=true)(he:execOp R Ω C.E st d (.ap t sz by_ x y)=some r) :
  eo C o d a w σ r.2 r.1:=by
 obtain ⟨c,x',y',ty,hop,hcal,hargs,htys,hlx,hly,hty,hsz,hby,hz⟩:∃ c x' y' ty,o.op= .call c∧c.callee= .builtin .append∧c.args.toList=[x',y']∧c.argTypes.toList=[ty,ty]∧bK x' x=true∧bK y' y=true∧
   kh C.P ty=some t∧sized C.P t sz=true∧C.P.bytesOf t=by_∧∃ zv,zeroOf C.P t=some zv∧zv.cells.size=sz:=by
  simp only [bC] at hl;split at hl
  ·rename_i c hy
   simp only [aA] at hl
   obtain ⟨h1,h2⟩:=hl
   split at h1
   ·rename_i hcal
    split at h2
    ·rename_i x' y' t1 t2 ha ht
     simp only [aA,cS] at h2
     obtain ⟨⟨⟨⟨⟨⟨h3,h4⟩,h5⟩,h6⟩,h7⟩,h8⟩,h9⟩:=h2
     subst h5
     split at h9
     ·rename_i zv hzv
      exact ⟨c,x',y',t1,hy,hcal,ha,ht,h3,h4,h6,h7,h8,zv,hzv,by simpa using h9⟩
     ·cases h9
    ·cases h2
   ·cases h1
  ·cases hl
 obtain ⟨zv,hzv,hzs⟩:=hz
 have hu:=ya hty
 obtain ⟨i,hi,hiz⟩:=xn hzv
 obtain ⟨_,hcells,hpos⟩:=og hsz
 have hisz:i.size=sz:=by rw [←hcells];simp [Program.cellsOf,hi]
 have hiby:i.bytes=by_:=by rw [←hby];simp [Program.bytesOf,hi]
 have hargs':c.args=#[x',y']:=by rw [←Array.toArray_toList (xs:=c.args),hargs]
 have htys':c.argTypes=#[ty,ty]:=by rw [←Array.toArray_toList (xs:=c.argTypes),htys]
 have hrun:∀ cv w',(Builtin.append_ #[ty,ty] o.type #[a.eval x',a.eval y']).run C.P w= .ok cv w'→(Go.execOp a.eval o).run C.P w= .ok (.value cv) w':=by
  intro cv w' hr
  unfold Go.execOp
  simp [hop,resolve,hcal,hargs',htys',invoke,builtin,hr]
 simp only [execOp] at he
 obtain ⟨dd,hdd,he1⟩:=ah.1 he
 clear he
 obtain ⟨ys,hys,he2⟩:=ah.1 he1
 clear he1
 obtain ⟨q,hq,he3⟩:=ah.1 he2
 clear he2
 split at he3
 ·rename_i hcond
  simp only [aA,df] at hcond
  obtain ⟨⟨hnc,hbytes⟩,hmax⟩:=hcond
  obtain rfl:=aa he3
  have hnc':∀ e∈ys.2,e.nc=sz:=fun e he=>by simpa using List.all_eq_true.1 hnc e he
  obtain ⟨news,hsrc,hf,hsl⟩:=h.src (sz:=sz) hu hly hys hnc'
  obtain ⟨hc,hdst⟩:=h.consume hlx hq
  have hsrc':Src C.P i.size ty (a.eval y') ys.2.length news w:=by rw [hisz];exact hsrc
  have hm63:(((q.1.length+ys.2.length:Nat):Int))≤9223372036854775807:=by simp [maxLen] at hmax;omega
  have hgrow:∀ A cap olds,a.eval x'= .slice A q.1.length cap→q.1.length≤cap→(Builtin.firstCells i.size q.1.length (.slice A q.1.length cap)).run C.P w.drew= .ok olds.toArray w.drew→Flat w σ.I σ.κ sz q.1 olds→
    cap<q.1.length+ys.2.length→eo C o d a w σ (q.2.aZ (.s dd)) (.o t (q.1++ys.2)):=by
   intro A cap olds hv hle hold hfo hlt
   have hap:=run_append_grow_src (P:=C.P) w ty ty o.type t i zv hu hi hiz A q.1.length cap olds hold _ _ news hsrc' hlt hm63
    (growslice_fits hlt (by rw [hiby];exact hbytes))
   have hge:=grownCap_ge w (q.1.length+ys.2.length) cap t
   have hgm:=grownCap_le_maxLen w (q.1.length+ys.2.length) cap t hmax
   generalize hN:grownCap w (q.1.length+ys.2.length) cap t=N at hap hge hgm
   have hff:=hfo.append hf
   have hlen:(olds++news).length=(q.1.length+ys.2.length)*sz:=by rw [hff.len,cH]
   obtain ⟨σ',hst,hc',ho,_⟩:=(hc.aZ (.s dd)).drew.newRow (L:=.rowS C.E.dp dd) (t:=t) (es:=q.1++ys.2) (cap:=N) (cs:=(olds++news).toArray++Builtin.zeroCells zv.cells (N - (q.1.length+ys.2.length)))
    (by omega) (fun e he=>by rw [hcells];exact hff.nc e he) (by simpa using hge) hgm
    (by
     rw [Array.size_append,size_zeroCells,hzs,hcells,qf,hlen,←da]
     congr 1;omega) hff.pure hff.one (fun j e m c hj hq'=>by
      have hlt2:=Ar (cB hj) (cB hq') (hff.nc e (aL hj))
      rw [cH] at hlt2
      rw [hcells,bn,vI,ab (by rw [qf,hlen];exact hlt2),yR]
      exact (hff.cell j e m c hj hq').mono (fun _ h=>h) (fun _ _=>rfl) (fun _ _=>rfl))
   rw [cH] at ho
   exact .jU (hrun _ _ (by rw [hv];exact hap)) (au.rb hdd hst.drew hc' ho)
  rcases hdst with ⟨h1,h2⟩ | ⟨L,g,cap,cs,hv,hR,hid⟩
  ·
   rw [h1] at hgrow hm63 ⊢
   by_cases hys0:ys.2=[]
   ·have hap:=run_append_nothing (P:=C.P) w ty ty o.type t i hu hi none 0 0 (aS _) (a.eval y') (by
     have:=hsrc'
     rw [hys0] at this
     have hn:news=[]:=oy (by rw [hf.len,hys0];simp)
     rw [hn] at this
     exact this)
    rw [hys0]
    exact .jU (hrun _ _ (by rw [h2];exact hap)) (au.rb hdd (.refl _ _ _) (hc.aZ _) (.inl ⟨rfl,rfl⟩))
   ·have hpos':0<ys.2.length:=by cases hq:ys.2 with | nil=>exact absurd hq hys0 | cons=>simp
    exact hgrow none 0 [] h2 (aS _) (by rw [run_firstCells_none]) .nil (by simpa using hpos')
  ·have hszt:C.P.cellsOf t=sz:=hcells
   by_cases hys0:ys.2=[]
   ·have hap:=run_append_nothing (P:=C.P) w ty ty o.type t i hu hi (some ⟨g,0,none⟩) q.1.length cap hR.ecap (a.eval y') (by
     have:=hsrc'
     rw [hys0] at this
     have hn:news=[]:=oy (by rw [hf.len,hys0];simp)
     rw [hn] at this
     exact this)
    rw [hys0,qg]
    refine .jU (hrun _ _ (by rw [hv];exact hap)) (au.rb hdd (.relabel (hR.wr trivial)) ((hc.relabel hR.ow hid).aZ _) (.inr ⟨g,cap,cs,rfl,hR.relabel⟩))
   ·by_cases hroom:q.1.length+ys.2.length≤cap
    ·obtain ⟨b,n,c',hvy,hn,hcell⟩:=hsl hys0
     have hfit:q.1.length*i.size+news.length≤cs.size:=by
      rw [hf.len,hR.size,hisz,hszt,←da];exact fv _ hroom
     have hap:=run_append_room (P:=C.P) w ty o.type t i hu hi g q.1.length cap cs hR.hh b n c' news (by rw [hisz,hn];exact hf.len) hcell hf.abT (by rw [hn];exact hroom) hfit
     have hw:((cs.toList.take (q.1.length*i.size)++news++cs.toList.drop (q.1.length*i.size+news.length)).toArray)=rV cs (q.1.length*sz) news:=by rw [hisz];rfl
     rw [hw,hn] at hap
     have hfit':q.1.length*sz+news.length≤cs.size:=by rw [←hisz];exact hfit
     have hsame:=iE.setRow hc hR.ow (rV cs (q.1.length*sz) news)
     have hc':=hc.GS hsame hid
     have hst:=cM.setRow hc hR.ow (hR.wr trivial) (rV cs (q.1.length*sz) news)
     have hfo:=hR.flat
     rw [hszt] at hfo
     have hff:=hfo.append hf
     have hR':fg C.P C.W (w.setRow g (rV cs (q.1.length*sz) news)) σ L True t (q.1++ys.2) g cap (rV cs (q.1.length*sz) news):=by
      refine ⟨hR.ow,hR.wr,setRow_heap w _ _ _ _ _ hR.hh,hR.pos,fun e he=>by rw [hszt];exact hff.nc e he,by simpa using hroom,hR.max,by rw [Bp _ _ _ hfit',hR.size],hff.pure,hff.one,fun j e m c hj hm=>?_,hR.base⟩
      have hv':=hff.cell j e m c hj hm
      have hlt2:=Ar (cB hj) (cB hm) (hff.nc e (aL hj))
      rw [hszt,Bq _ _ _ hfit']
      refine VR.same hsame ?_
      have hol:((cs.toList.drop 0).take (q.1.length*sz)).length=q.1.length*sz:=hfo.len
      rw [kv,hol] at hv'
      rw [cH,da] at hlt2
      by_cases hj2:j*sz+m<q.1.length*sz
      ·rw [ab hj2] at hv'
       rw [ad (by omega)]
       rw [eV,ab hj2,tC] at hv'
       simpa [bn] using hv'
      ·rw [ad hj2] at hv'
       rw [ab ⟨by omega,by rw [hf.len];exact hlt2⟩]
       exact hv'
     refine .jU (hrun _ _ (by rw [hv,hvy,hn];exact hap)) (au.rb hdd (hst.trans (.relabel (hR.wr trivial))) ((hc'.relabel hR.ow hid).aZ _) (.inr ⟨g,cap,_,by rw [cH],hR'.relabel⟩))
    ·have hfo:=hR.flat
     rw [hszt] at hfo
     refine hgrow (some ⟨g,0,none⟩) cap _ hv hR.ecap (run_firstCells_some w.drew i.size _ _ _ _ _ (by rw [hisz];exact hfo.len) (fun j u hj=>?_)) hfo (by omega)
     have:=Br hR.hh j u hj
     simpa using this
 ·cases he3
end
variable [bJ]
section
variable {C:Cx}{st:St}{a:Act}{w:World}{σ:Sp}{o:Oper}{d:Option Nat}{R:Rec}{Ω:du}{r:AV×St}
def Sp.eN(σ:Sp)(g:Nat):Sp:={σ with ow:=fun b=>if b=g then none else σ.ow b,I:=fun b=>σ.I b∨b=g}
theorem au.Pz{g:Nat}{L:dz}(h:au C st a w σ)(hg:σ.ow g=some L)(hi:Idle C st (some L)):au C st a w (σ.eN g):=by
 refine h.GS (L:=some L) ⟨fun b l hb hl=>⟨rfl,?_⟩,fun _ _=>rfl,fun _ h=>.inl h,rfl,aS _,fun b l hb=>?_,fun b hb=>?_⟩ hi
 ·grind [Sp.eN]
 ·simp only [Sp.eN] at hb
  split at hb
  ·cases hb
  ·exact h.own b l hb
 ·rcases hb with hb | rfl
  ·obtain ⟨h1,h2⟩:=h.bT b hb
   grind [Sp.eN]
  ·exact ⟨h.own _ _ hg,by simp [Sp.eN]⟩
theorem cM.eN{g:Nat}(hW:C.W g):cM C w σ w (σ.eN g):=
 ⟨aS _,fun _ _ _=>rfl,fun _ h=>.inl h,fun _ _=>rfl,fun b hb=>hb.elim .inl (by grind),fun _ _=>rfl,fun b _ hb=>ad (fun e=>hb (by rw [e];exact hW)),rfl,rfl⟩
theorem fg.bT{P:Program}{W:Nat→Prop}{L:dz}{wp:Prop}{t:TypeId}{es:List AV}{g cap lo len:Nat}{cs:Array Value}{I:Nat→Prop}(hR:fg P W w σ L wp t es g cap cs)(hI:∀ b,σ.I b→I b)(hg:I g)
  (hle:lo+len≤es.length):VR w I σ.κ (.l t ((es.drop lo).take len)) (.slice (some ⟨g,lo*P.cellsOf t,none⟩) len (cap - lo)):=by
 have hm:∀ e∈(es.drop lo).take len,e∈es:=by grind
 have hlen:((es.drop lo).take len).length=len:=by simp;omega
 have hec:=hR.ecap
 have:=VR.l (w:=w) (I:=I) (κ:=σ.κ) t ((es.drop lo).take len) g (lo*P.cellsOf t) (cap - lo) cs t (0,0) (P.cellsOf t) hg hR.hh (fun _=>⟨fun _=>⟨rfl,rfl⟩,fun h=>absurd hR.base (Nat.not_le_of_lt h)⟩) hR.pos (fun e he=>hR.nc e (hm e he))
  (by rw [hlen,hR.size,←da];exact fv _ (by omega)) (fun e he=>hR.pure e (hm e he)) (fun e he=>hR.one e (hm e he)) (by omega) (by have:=hR.max;omega) (fun j e m c hj hq=>by
   rw [eV] at hj
   split at hj
   ·rw [gx] at hj
    have:=hR.cell _ e m c hj hq
    rw [da] at this
    exact this.Aq hI (fun _ _=>rfl) (jq (hR.pure e (aL hj)) c (aL hq))
   ·cases hj)
 grind
theorem fg.TB{P:Program}{W:Nat→Prop}{L:dz}{wp:Prop}{t:TypeId}{es:List AV}{g cap:Nat}{cs:Array Value}{I:Nat→Prop}(hR:fg P W w σ L wp t es g cap cs)(hI:∀ b,σ.I b→I b)(hg:I g) :
  VR w I σ.κ (.l t es) (.slice (some ⟨g,0,none⟩) es.length cap):=by
 have:=hR.bT hI hg (lo:=0) (len:=es.length) (by omega)
 simpa using this
theorem au.freeze{L:dz}{t:TypeId}{es:List AV}{v:Value}(h:au C st a w σ)(ho:OwnAt C.P C.W w σ L True t es v)(hi:Idle C st (some L)) :
  ∃ σ',cM C w σ w σ'∧au C st a w σ'∧VR w σ'.I σ'.κ (.l t es) v∧σ'.κ=σ.κ:=by
 rcases ho with ⟨rfl,rfl⟩ | ⟨g,cap,cs,rfl,hR⟩
 ·exact ⟨σ,.refl _ _ _,h,.lnil _ _ _,rfl⟩
 ·exact ⟨_,.eN (hR.wr trivial),h.Pz hR.ow hi,hR.TB (I:=(σ.eN g).I) (fun _ h=>.inl h) (.inr rfl),rfl⟩
theorem au.Bs{st':St}(h:au C st a w σ)(hfr:∀ d,ax st'.fr d= .u∨ax st'.fr d=ax st.fr d)(hbx:∀ k cs,st'.box C.E.dp k=some cs→st.box C.E.dp k=some cs)
  (hhp:∀ k cs,k.dp≠C.E.dp→st'.hp k=some cs→st.hp k=some cs):au C st' a w σ:=by
 have h1:au C {st with hp:=st'.hp} a w σ→au C st' a w σ:=fun h1=>h1.forget hfr ((by grind [St.box])) rfl
 refine h1 ⟨h.size,h.defers,fun d=>(h.fr d).Fp fun pl _ ⟨r,hr⟩=>?_,fun k cs hk=>?_,fun k cs hk hc=>h.hpd k cs hk (hhp k cs hk hc),h.own,h.bT,h.new,h.lay⟩
 ·refine ⟨?_,rfl⟩
  rw [hr]
  cases pl with
  | s d'=>exact hr.symm
  | c k off=>
   grind [St.rowAt,St.box]
 ·by_cases hd:k.dp=C.E.dp
  ·exact h.bx k cs (by grind [St.box])
  ·simp only [St.box,ad hd] at hk
   exact h.bx k cs (by grind [St.box])
theorem GX(fr:List (Nat×AV))(ks:List Nat)(d:Nat):ax (ef fr ks) d= .u∨ax (ef fr ks) d=ax fr d:=by
 induction ks with
 | nil=>exact .inl rfl
 | cons k ks ih=>
  grind [ef,ax]
theorem de{bx:List (Nat×List AV)}{ks:List Nat}{d:Nat}{cs:List AV}(h:aO (dk bx ks) d=some cs):aO bx d=some cs:=by
 induction ks with
 | nil=>simp [dk,aO] at h
 | cons k ks ih=>
  grind [dk,aO]
theorem au.aP(h:au C st a w σ)(kf kb:List Nat):au C (st.aP kf kb) a w σ:=
 h.Bs (GX st.fr kf) (fun k cs hk=>by
  by_cases hd:k.dp=C.E.dp
  ·grind [St.box,St.aP,de]
  grind [St.box,St.aP]) (fun _ _ _ h=>h)
theorem au.cV{d:Nat}{x:AV}(h:au C st a w σ)(hx:SR C w σ st a d x (a.tmps.getD d undef))(hb:∀ t es,x= .o t es→∀ d',(ax st.fr d').ji (.s d)=false)(hd:d<C.nt):au C (st.cV d x) a w σ:=by
 have:=h.put hd hx hb
 have e:a.put (some d) (a.tmps.getD d undef)=a:=by
  have hd':d<a.tmps.size:=h.size▸hd
  simp only [Act.put]
  have:a.tmps.setIfInBounds d (a.tmps.getD d undef)=a.tmps:=by
   apply Array.ext_getElem?
   simp_all [tD]
  rw [this]
 rwa [e] at this
theorem N9{d:Nat}{x:AV}{v:Value}(hd:C.nt≤d)(h:au C st a w σ)(hx:ax st.fr d=x)(hv:a.tmps.getD d undef=v):v=undef:=by
 rw [←hv]
 have:¬d<a.tmps.size:=by rw [h.size];omega
 simp [this]
theorem Wo{d:Nat}{t:TypeId}{es:List AV}(h:au C st a w σ)(hx:ax st.fr d= .o t es):d<C.nt:=by
 rcases lP d C.nt with hd | hd
 ·exact hd
 ·have:=h.fr d
  rw [hx,N9 hd h rfl rfl] at this
  rcases this with ⟨_,h2⟩ | ⟨_,_,_,h2,_⟩<;>cases h2
theorem LN{d:Nat}{x:AV}{v:Value}(h:au C st a w σ)(hv:a.tmps.getD d undef=v)(hne:v≠undef):d<C.nt:=by
 rcases lP d C.nt with hd | hd
 ·exact hd
 ·exact absurd (by rw [←hv];exact N9 (x:=ax st.fr d) hd h rfl rfl) hne
theorem LO{k:Key}{off:Nat}{c:AV}{v:Value}(hc:c.pure=true)(h:CR C w σ k off c v):VR w σ.I σ.κ c v:=by
 cases c<;>first | exact h | cases hc
theorem au.C9{k:Key}{cs:List AV}{off:Nat}{x:AV}(h:au C st a w σ)(hb:st.box C.E.dp k=some cs)(hno:∀ t es,cs[off]? ≠some (.o t es))(hx:x.one=true)
  (hdeep:k.dp≠C.E.dp→x.deep k.dp=true) (hbor:∀ d,(ax st.fr d).ji (.c k off)=false)
  (hv:∀ vs T,w.heap[σ.κ k]? =some (.cells vs T (0,0))→CR C w σ k off x (vs.getD off undef))
  (hzt:∀ t kk u,x= .bp t kk u→∀ vs T,w.heap[σ.κ k]? =some (.cells vs T (0,0))→t=T∧vs.size=cs.length:=by intro _ _ _ e;cases e):au C (st.aK C.E.dp k (cs.set off x)) a w σ:=by
 have hbox:=fun k'=>iP (cs':=cs.set off x) hb k'
 obtain ⟨vs,T,hB⟩:=h.bx k cs hb
 refine ⟨h.size,h.defers,fun d=>?_,fun k' cs' hk=>?_,fun k' cs' hk hc'=>?_,h.own,h.bT,h.new,h.lay⟩
 ·rw [oh]
  refine (h.fr d).Fp fun pl hpl ⟨r,hr⟩=>⟨?_,rfl⟩
  rw [hr]
  cases pl with
  | s d'=>grind [ra]
  | c k' off'=>
   simp only [St.rowAt,hbox] at hr ⊢
   by_cases hk:k'=k
   ·subst hk
    by_cases ho:off=off'
    ·subst ho
     rw [hbor d] at hpl;cases hpl
    ·simp only [aq,kx,ad ho] at hr
     simp only [hb];exact hr.symm
   ·simp only [ad hk] at hr
    exact hr.symm
 ·rw [hbox] at hk
  by_cases hkk:k'=k
  ·subst hkk
   simp only [aq] at hk
   obtain rfl:=aa hk
   refine ⟨vs,T,hB.hh,by simpa using hB.size,hB.ow,hB.wr,fun c hm=>?_,fun i c hi=>?_,fun t kk u ht=>(iH ht).elim (fun hm=>by simpa using hB.ty t kk u hm) (fun e=>by simpa using hzt t kk u e.symm vs T hB.hh),hB.kb⟩
   ·rcases iH hm with hm | rfl
    ·exact hB.one c hm
    ·exact .inl hx
   ·rw [kx] at hi
    split at hi
    ·rename_i e
     split at hi
     ·obtain rfl:=aa hi
      subst e
      exact hv vs T hB.hh
     ·cases hi
    ·exact hB.cell i c hi
  ·simp only [ad hkk] at hk
   exact h.bx k' cs' hk
 ·by_cases hkd:k.dp=C.E.dp
  ·simp only [St.aK,hkd,aq] at hc'
   exact h.hpd k' cs' hk hc'
  ·simp only [St.aK,ad hkd,aF] at hc'
   split at hc'
   ·rename_i hkk
    subst hkk
    obtain rfl:=aa hc'
    have hold:=h.hpd k' cs hk (by grind [St.box])
    grind
   ·exact h.hpd k' cs' hk hc'
theorem set_set(cs:List AV)(off:Nat)(x y:AV):(cs.set off x).set off y=cs.set off y:=by
 simp_all
theorem JH(bx:List (Nat×List AV))(d:Nat)(x y:List AV):nP (nP bx d x) d y=nP bx d y:=by
 induction bx with
 | nil=>rfl
 | cons z bx ih=>
  grind [nP]
theorem Kf(dp:Nat)(st:St)(k:Key)(x y:List AV):(st.aK dp k x).aK dp k y=st.aK dp k y:=by
 unfold St.aK
 split
 ·simp only [JH]
 ·congr 1
  grind [aF]
theorem As{k:Key}{off:Nat}(h:k.dp=C.E.dp):(Pl.c k off).iJ C.E=true:=by simp [Pl.iJ,h]
def dz.dpt:dz→Nat
 | .box k=>k.dp
 | .rowS dp _=>dp
 | .rowC k _=>k.dp
 | .grp dp _=>dp
 | .mark dp=>dp
theorem au.VM{d:Nat}{cs:List AV}{vs:Array Value}{T:TypeId}{g:Nat}{ow':Nat→Option dz}(h:au C st a w σ)(how:∀ b l,σ.ow b=some l→l.dpt≤C.E.dp→ow' b=some l)(hown:∀ b l,ow' b=some l→b<w.heap.size)(himm:∀ b,σ.I b→ow' b=none)
  (hh:w.heap[g]? =some (.cells vs T (0,0))) (hkb:(1000000≤d→T=(d - 1000000) / 1000)∧bJ.n0≤g) (hsz:cs.length≤vs.size) (hg:ow' g=some (.box ⟨C.E.dp,d⟩)) (hW:C.W g) (h1:∀ c∈cs,c.one=true∨c= .u)
  (hcell:∀ (off:Nat)(c:AV),cs[off]? =some c→match c with
   | .o t es=>OwnAt C.P C.W w ⟨σ.κ,ow',σ.I⟩ (.rowC ⟨C.E.dp,d⟩ off) True t es (vs.getD off undef)
   | c=>c.pure=true∧VR w σ.I σ.κ c (vs.getD off undef))
  (hfr:∀ d',(ax st.fr d').cC ⟨C.E.dp,d⟩=true) (hbx:∀ d' cs',aO st.bx d'=some cs'→∀ c∈cs',c.cC ⟨C.E.dp,d⟩=true) :
  au C {st with bx:=(d,cs)::st.bx} a w ⟨fun k=>if k=⟨C.E.dp,d⟩ then g else σ.κ k,ow',σ.I⟩:=by
 have hhp:=Iy h d
 have hkap:∀ k,k≠⟨C.E.dp,d⟩→(if k=⟨C.E.dp,d⟩ then g else σ.κ k)=σ.κ k:=fun k hk=>ad hk
 have hnk:∀ (x:AV),x.cC ⟨C.E.dp,d⟩=true→∀ k,x.cC k=false→k≠⟨C.E.dp,d⟩:=by
  grind
 have hrow:∀ pl r,({st with bx:=(d,cs)::st.bx} : St).rowAt C.E.dp pl=some r→(∀ off,pl≠.c ⟨C.E.dp,d⟩ off)→st.rowAt C.E.dp pl=some r:=by
  intro pl r hr hne
  cases pl with
  | s d'=>exact hr
  | c k off=>
   simp only [St.rowAt,St.box] at hr ⊢
   by_cases hk:k.dp=C.E.dp
   ·have hkd:d≠k.d:=fun e=>hne off (by cases k;grind)
    grind [aO]
   grind
 have hmk:Marks C a.defers w ⟨fun k=>if k=⟨C.E.dp,d⟩ then g else σ.κ k,ow',σ.I⟩:=by
  obtain ⟨Ds,h0,h1,h2⟩:=h.defers
  exact ⟨Ds,h0,h1,fun D hD=>⟨how D _ (h2 D hD).1 (aS _),(h2 D hD).2⟩⟩
 refine ⟨h.size,hmk,fun d'=>?_,fun k cs' hk=>?_,h.hpd,hown,fun b hb=>⟨(h.bT b hb).1,himm b hb⟩,h.new,h.lay⟩
 ·have hx:=h.fr d'
  have hn:=hfr d'
  have hpv:∀ pl,(∀ off,pl≠.c ⟨C.E.dp,d⟩ off)→fS w ⟨fun k=>if k=⟨C.E.dp,d⟩ then g else σ.κ k,ow',σ.I⟩ a pl=fS w σ a pl:=by
   intro pl hne
   cases pl with
   | s d''=>rfl
   | c k off=>
    grind [fS]
  generalize ax st.fr d'=x at hx hn ⊢
  show SR _ _ _ _ _ _ x _
  cases x with
  | o t es=>exact OwnAt.aP (C:=C) hx (fun g hg=>⟨rfl,how _ _ hg (aS _)⟩) (fun _ h=>h) (fun _ _=>rfl)
  | r pl=>
   have hne:∀ off,pl≠.c ⟨C.E.dp,d⟩ off:=by grind [AV.cC]
   intro hsm
   obtain ⟨r,hr⟩:=gq.1 hsm
   rw [hpv pl hne]
   exact hx (by grind)
  | v pl lo len=>
   have hne:∀ off,pl≠.c ⟨C.E.dp,d⟩ off:=by grind [AV.cC]
   intro t es ht hll
   rw [hpv pl hne]
   exact hx t es (hrow pl _ ht hne) hll
  | q pl i sz off=>
   have hne:∀ off,pl≠.c ⟨C.E.dp,d⟩ off:=by grind [AV.cC]
   intro t es ht hll
   rw [hpv pl hne]
   exact hx t es (hrow pl _ ht hne) hll
  | w g t x=>exact pE.aP hx (fun b hb=>⟨rfl,how _ _ hb (aS _)⟩) fun _ h=>h
  | ag cs' rs=>exact wG.to hx (fun c hc v hv=>hv.mono (fun _ h=>h) (fun _ _=>rfl) (by grind [nh,AV.cC])) (fun _ _ hr=>⟨hr,rfl⟩)
  | _=>exact VR.mono hx (fun _ h=>h) (fun _ _=>rfl) (by grind)
 ·by_cases hK:k=⟨C.E.dp,d⟩
  ·subst hK
   simp only [St.box,aq,aO] at hk
   obtain rfl:=aa hk
   refine ⟨vs,T,by grind,hsz,by grind,by grind,h1,fun off c hc=>?_,fun t _ _ ht=>(by obtain ⟨m,hm⟩:=ec.1 ht;cases (hcell m _ hm).1),by grind⟩
   have hv:=hcell off c hc
   by_cases ho:∃ t es,c= .o t es
   ·obtain ⟨t,es,rfl⟩:=ho
    rcases hv with hv | ⟨g',cap,cs',hv,hr⟩
    ·exact .inl hv
    ·exact .inr ⟨g',cap,cs',hv,⟨hr.ow,fun _=>hr.wr trivial,hr.hh,hr.pos,hr.nc,hr.ecap,hr.max,hr.size,hr.pure,hr.one,fun j e m c he hc=>(hr.cell j e m c he hc).Aq (fun _ h=>h) (fun _ _=>rfl) (jq (hr.pure e (aL he)) c (aL hc)),hr.base⟩⟩
   ·split at hv
    ·grind
    ·exact Q5 (hv.2.Aq (fun _ h=>h) (fun _ _=>rfl) hv.1)
  ·have hk':st.box C.E.dp k=some cs':=by
    simp only [St.box] at hk ⊢
    by_cases hkd:k.dp=C.E.dp
    ·have hne:d≠k.d:=fun e=>hK (by cases k;grind)
     grind [aO]
    grind
   obtain ⟨vs',T',hB⟩:=h.bx k cs' hk'
   have hkdp:k.dp≤C.E.dp:=by
    by_cases hkd:k.dp=C.E.dp
    ·omega
    ·simp only [St.box,ad hkd] at hk'
     exact fx (h.hpd k cs' hkd hk').1
   have hmem:∀ c∈cs',c.cC ⟨C.E.dp,d⟩=true:=by
    grind [St.box]
   refine ⟨vs',T',by simp only [ad hK];exact hB.hh,hB.size,by simp only [ad hK];exact how _ _ hB.ow hkdp,fun hw=>by simp only [ad hK];exact hB.wr hw,hB.one,fun off c hc=>?_,hB.ty,by simp only [ad hK];exact hB.kb⟩
   exact CR.aP (C:=C) (hB.cell off c hc) (fun g hg=>⟨rfl,how _ _ hg hkdp⟩) (fun _ h=>h) (fun _ _=>rfl) ((by grind)) fun b g hg=>⟨rfl,how _ _ hg (aS _)⟩
theorem flat_get(sz:Nat):∀ {es:List AV}{i:Nat}{c:AV},(∀ e∈es,e.nc=sz)→(es.flatMap AV.cl)[i]? =some c→∃ (j m:Nat)(e:AV),es[j]? =some e∧e.cl[m]? =some c∧i=j*sz+m
 | [],i,c,_,h=>by simp at h
 | x::es,i,c,hn,h=>by
  have hx:x.cl.length=sz:=hn x (by simp)
  rw [CC] at h
  rcases lP i sz with hi | hi
  ·rw [oz (by omega)] at h
   exact ⟨0,i,x,rfl,h,by omega⟩
  ·rw [tF (by omega)] at h
   obtain ⟨j,m,e,h1,h2,h3⟩:=flat_get sz (fun e he=>hn e (by simp [he])) h
   exact ⟨j+1,m,e,by simpa using h1,h2,by grind⟩
theorem LP(sz:Nat):∀ {es:List AV},(∀ e∈es,e.nc=sz)→(es.flatMap AV.cl).length=es.length*sz
 | [],_=>by simp
 | x::es,hn=>by
  have hx:x.cl.length=sz:=hn x (by simp)
  rw [CC,cH,LP sz (fun e he=>hn e (by simp [he])),hx,bu,da]
  omega
theorem Bt(sz:Nat):∀ (n:Nat)(cs:List AV),(chunks sz n cs).length=n
 | 0,_=>rfl
 | n+1,cs=>by simp [chunks,Bt sz n]
theorem lh(sz:Nat)(hsz:0<sz):∀ {n:Nat}{cs:List AV}{j:Nat}{e:AV},(∀ c∈cs,c.one=true)→n*sz≤cs.length→(chunks sz n cs)[j]? =some e→e.cl=(cs.drop (j*sz)).take sz∧(j+1)*sz≤cs.length∧(AV.bk cs=true→e.pure=true)
 | 0,cs,j,e,_,_,h=>by simp [chunks] at h
 | n+1,cs,0,e,h1,hl,h=>by
  simp only [chunks,yV,ju] at h
  have hl':sz≤cs.length:=by grind
  refine ⟨?_,by omega,fun hp=>?_⟩
  ·rw [yS,tC,←h]
   split
   ·rename_i e1
    subst e1
    cases cs with
    | nil=>simp at hl'
    | cons c cs=>
     have hc:=h1 c (by simp)
     cases c<;>first | rfl | (simp [AV.one] at hc)
   ·rfl
  ·rw [←h]
   split
   ·rename_i e1
    subst e1
    cases cs with
    | nil=>simp at hl'
    | cons c cs=>grind [ft]
   ·exact jo (by grind [ft])
 | n+1,cs,j+1,e,h1,hl,h=>by
  simp only [chunks,Cw] at h
  have hl':n*sz≤(cs.drop sz).length:=by grind
  obtain ⟨h2,h3,h4⟩:=lh sz hsz ((by grind)) hl' h
  grind [List.drop_drop,jo,ft]
theorem au.pF{k:Key}{off nd sz:Nat}{cs es:List AV}{t:TypeId}(h:au C st a w σ)(hkd:k.dp=C.E.dp)(hb:aO st.bx k.d=some cs)(hz:cs[off]? =some (.o t es))(hne:es≠[])
  (hnc:∀ e∈es,e.nc=sz) (hno:xh C.E.dp (st.aK C.E.dp k (cs.set off .u)) t nd=true) :
  ∃ σ',cM C w σ w σ'∧au C ((({(st.aK C.E.dp k (cs.set off .u)) with bx:=(nd,es.flatMap AV.cl)::(st.aK C.E.dp k (cs.set off .u)).bx} : St).aZ (.c k off)).aK C.E.dp k ((cs.set off .u).set off (.sp ⟨C.E.dp,nd⟩ 0 es.length sz))) a w σ':=by
 have hb':st.box C.E.dp k=some cs:=by simp [St.box,hkd,hb]
 obtain ⟨vs,T,hB⟩:=h.bx k cs hb'
 have ho:OwnAt C.P C.W w σ (.rowC k off) ((Pl.c k off).iJ C.E=true) t es (vs.getD off undef):=hB.cell _ _ hz
 rcases ho with ⟨rfl,_⟩ | ⟨g,cap,cs',hv,hR⟩
 ·grind
 obtain ⟨h1,hi⟩:=h.C8 (pl:=.c k off) (st':=st.aK C.E.dp k (cs.set off .u)) (by simp [St.putAt,hb'])
 have h2:=h1.relabel (M:=.box ⟨C.E.dp,nd⟩) hR.ow hi
 simp only [xh,aA,df] at hno
 have hsz:sz=C.P.cellsOf t:=by
  cases es with
  | nil=>grind
  | cons e es=>exact (hnc e (by simp)).symm.trans (hR.nc e (by simp))
 have hWg:C.W g:=hR.wr (As hkd)
 have h3:=h2.VM (d:=nd) (cs:=es.flatMap AV.cl) (vs:=cs') (T:=t) (g:=g) (ow':=fun b=>if b=g then some (.box ⟨C.E.dp,nd⟩) else σ.ow b) (fun b l hb _=>hb) (fun b l hb=>h2.own b l hb) (fun b hb=>(h2.bT b hb).2)
  hR.hh ⟨fun _=>hno.1.1.2.symm,hR.base⟩ (by rw [LP sz hnc,hR.size,hsz];exact fv _ hR.ecap) (by simp) hWg (fun c hc=>by
   obtain ⟨e,he,hce⟩:=CD.1 hc
   exact .inl (hR.one e he c hce)) (fun i c hc=>by
   obtain ⟨j,m,e,he,hm,rfl⟩:=flat_get sz hnc hc
   have hp:=jq (hR.pure e (aL he)) c (aL hm)
   have hcell:=hR.cell j e m c he hm
   rw [←hsz] at hcell
   cases c with
   | o t' es'=>cases hp
   | _=>exact ⟨hp,hcell⟩)
  (qB rfl _ hno.1.2) (fun d' cs2 hb2 c hc=>nh (nx _ hno.2 d' cs2 hb2) c hc)
 have hnd:nd≠k.d:=by
  intro e
  have h4:aO (st.aK C.E.dp k (cs.set off .u)).bx nd=none:=by simp_all
  have h5:=iP (cs':=cs.set off .u) hb' k
  rw [ab rfl] at h5
  simp only [St.box,hkd,aq] at h5
  rw [e] at h4
  rw [h5] at h4;cases h4
 have hkk:k≠⟨C.E.dp,nd⟩:=fun e=>hnd (by rw [e])
 have hb4:(({(st.aK C.E.dp k (cs.set off .u)) with bx:=(nd,es.flatMap AV.cl)::(st.aK C.E.dp k (cs.set off .u)).bx} : St).aZ (.c k off)).box C.E.dp k=some (cs.set off .u):=by
  rw [C2]
  have h5:=iP (cs':=cs.set off .u) hb' k
  rw [ab rfl] at h5
  simp only [St.box,hkd,aq,aO,ad hnd] at h5 ⊢
  exact h5
 have h5:=(h3.aZ (.c k off)).C9 (x:=.sp ⟨C.E.dp,nd⟩ 0 es.length sz) (off:=off) hb4 ((by grind)) rfl (fun hne=>absurd hkd hne) (fun d'=>jT _ _ _) (fun vs' T' hh=>by
  simp only [ad hkk] at hh
  have hh:w.heap[σ.κ k]? =some (.cells vs' T' (0,0)):=hh
  rw [hB.hh] at hh
  simp only [ju,Obj.cells.injEq] at hh
  rw [←hh.1,hv]
  have:=VR.sp (w:=w) (I:=σ.I) (κ:=fun k=>if k=⟨C.E.dp,nd⟩ then g else σ.κ k) ⟨C.E.dp,nd⟩ 0 es.length sz cap hR.ecap hR.max
  simp only [aq] at this
  exact this)
 refine ⟨⟨fun k=>if k=⟨C.E.dp,nd⟩ then g else σ.κ k,fun b=>if b=g then some (dz.box ⟨C.E.dp,nd⟩) else σ.ow b,σ.I⟩,⟨aS _,fun _ _ _=>rfl,fun _ h=>h,fun _ _=>rfl,fun _ h=>.inl h,fun k' hk'=>?_,fun b _ hW=>?_,rfl,rfl⟩,h5⟩
 ·grind
 grind
theorem Au{bx:List (Nat×List AV)}{d e:Nat}(h:e≠d):aO (bx.filter fun y=>y.1 !=d) e=aO bx e:=by
 induction bx with
 | nil=>rfl
 | cons z bx ih=>
  grind [aO]
theorem Av{bx:List (Nat×List AV)}{d:Nat} : aO (bx.filter fun y=>y.1 !=d) d=none:=by
 induction bx with
 | nil=>rfl
 | cons z bx ih=>
  grind [aO]
theorem au.ahA{k k2:Key}{off n sz:Nat}{cs cs2:List AV}(h:au C st a w σ)(hkd:k.dp=C.E.dp)(hb:aO st.bx k.d=some cs)(hz:cs[off]? =some (.sp k2 0 n sz))(hk2:k2.dp=C.E.dp)(hne:k2≠k)
  (hb2:aO st.bx k2.d=some cs2) (hp:AV.bk cs2=true) (hsz:0<sz) (hle:n*sz≤cs2.length) :
  ∃ σ',cM C w σ w σ'∧au C ((({st with bx:=st.bx.filter fun y=>y.1 !=k2.d} : St).aZ (.c k off)).aK C.E.dp k (cs.set off (.l (rX k2.d) (chunks sz n cs2)))) a w σ':=by
 have hb':st.box C.E.dp k=some cs:=by simp [St.box,hkd,hb]
 have hb2':st.box C.E.dp k2=some cs2:=by simp [St.box,hk2,hb2]
 obtain ⟨vs,T,hB⟩:=h.bx k cs hb'
 obtain ⟨vs2,T2,hB2⟩:=h.bx k2 cs2 hb2'
 have hdd:k.d≠k2.d:=fun e=>hne (by cases k;cases k2;grind)
 have hpl:=ft hp
 have hone:∀ c∈cs2,c.one=true:=fun c hc=>(hB2.one c hc).resolve_right fun e=>by have:=hpl c hc;rw [e] at this;cases this
 have h1:au C {st with bx:=st.bx.filter fun y=>y.1 !=k2.d} a w σ:=by
  refine h.Bs (fun _=>.inr rfl) (fun k' cs' hk=>?_) (fun _ _ _ h=>h)
  by_cases hd:k'.dp=C.E.dp
  ·simp only [St.box,hd,aq] at hk ⊢
   by_cases he:k'.d=k2.d
   ·grind [Av]
   simp_all [Au]
  grind [St.box]
 have hgone:({st with bx:=st.bx.filter fun y=>y.1 !=k2.d} : St).box C.E.dp k2=none:=by
  grind [St.box,Av]
 have hi:Idle C {st with bx:=st.bx.filter fun y=>y.1 !=k2.d} (some (.box k2)):=
  ⟨fun _ _ _ _=>by simp,by grind,fun _ _ _ _ _ _ _=>by simp,fun _=>by simp,by simp⟩
 have h2:=h1.Pz hB2.ow hi
 have hW:C.W (σ.κ k2):=hB2.wr (As hk2)
 have hb4:(({st with bx:=st.bx.filter fun y=>y.1 !=k2.d} : St).aZ (.c k off)).box C.E.dp k=some cs:=by
  rw [C2]
  simp_all [St.box,Au]
 refine ⟨_,.eN hW,(h2.aZ (.c k off)).C9 (x:=.l (rX k2.d) (chunks sz n cs2)) (off:=off) hb4 ((by grind)) rfl (fun hne=>absurd hkd hne) (fun d'=>jT _ _ _) (fun vs' T' hh=>?_)⟩
 have hh':w.heap[σ.κ k]? =some (.cells vs' T' (0,0)):=hh
 rw [hB.hh] at hh'
 simp only [ju,Obj.cells.injEq] at hh'
 rw [←hh'.1]
 have hcell:VR w σ.I σ.κ (.sp k2 0 n sz) (vs.getD off undef):=hB.cell off _ hz
 generalize vs.getD off undef=v at hcell
 cases hcell with
 | sp _ _ _ _ cap hc1 hc2=>
  show VR w _ _ _ _
  have hlen:=Bt sz n cs2
  have hT:rX k2.d≠0→(bJ.n0≤σ.κ k2→T2=rX k2.d∧((0,0):Nat×Nat)=(0,0))∧(σ.κ k2<bJ.n0→bJ.tg (rX k2.d)=true):=by
   intro h
   unfold rX at h ⊢
   split at h
   ·rename_i hd
    rw [ab hd]
    exact ⟨fun _=>⟨hB2.kb.1 hd,rfl⟩,fun hlt=>absurd hB2.kb.2 (by omega)⟩
   grind
  have:=VR.l (w:=w) (I:=(σ.eN (σ.κ k2)).I) (κ:=σ.κ) (rX k2.d) (chunks sz n cs2) (σ.κ k2) 0 cap vs2 T2 (0,0) sz (.inr rfl) hB2.hh hT hsz (fun e he=>?_) ?_ (fun e he=>?_) (fun e he c hc=>?_) (by omega) hc2 (fun j e m c he hc=>?_)
  ·rw [hlen] at this;exact this
  ·obtain ⟨j,hj⟩:=ec.1 he
   obtain ⟨h3,h4,_⟩:=lh sz hsz hone hle hj
   grind [AV.nc]
  ·rw [hlen];have:=hB2.size;omega
  ·obtain ⟨j,hj⟩:=ec.1 he
   exact (lh sz hsz hone hle hj).2.2 hp
  ·obtain ⟨j,hj⟩:=ec.1 he
   obtain ⟨h3,_,_⟩:=lh sz hsz hone hle hj
   grind
  ·obtain ⟨h3,_,_⟩:=lh sz hsz hone hle he
   rw [h3,eV] at hc
   split at hc
   ·rw [gx] at hc
    have hcm:=aL hc
    rw [eU]
    exact (LO (hpl c hcm) (hB2.cell _ c hc)).Aq (fun _ h=>.inl h) (fun _ _=>rfl) (hpl c hcm)
   ·cases hc
theorem au.abV{p:uD}{st':St}(h:au C st a w σ)(he:gj C.E st p=some st'):∃ σ',cM C w σ w σ'∧au C st' a w σ':=by
 cases p with
 | own d t=>
  simp only [gj] at he
  split at he
  ·rename_i hx
   obtain rfl:=aa he
   have hs:=h.fr d
   rw [hx] at hs
   have hv:=VR.Ec hs
   refine ⟨σ,.refl _ _ _,(h.aZ (.s d)).cV (.inl ⟨rfl,hv⟩) (fun _ _ _ d'=>jT _ _ _) (LN (x:=.n) h hv (by simp [undef]))⟩
  ·obtain rfl:=aa he
   exact ⟨σ,.refl _ _ _,h⟩
  ·cases he
 | fz d=>
  simp only [gj] at he
  split at he
  ·rename_i t es hx
   obtain rfl:=aa he
   have hs:=h.fr d
   rw [hx] at hs
   obtain ⟨σ',hst,hc,hv,_⟩:=(h.LK d).freeze (L:=.rowS C.E.dp d) hs ((by grind [vZ,lA]))
   have:=hc.cV (d:=d) (x:=.l t es) hv (fun _ _ e=>by cases e) (Wo h hx)
   refine ⟨σ',hst,this.Bs (fun d'=>.inr ?_) (fun _ _ h=>h) (fun _ _ _ h=>h)⟩
   grind [lA]
  ·cases he
 | ownC d off t=>
  simp only [gj] at he
  split at he
  ·rename_i k o hx
   split at he
   ·rename_i hm
    obtain ⟨cs,hb,he1⟩:=ah.1 he
    clear he
    split at he1
    ·rename_i hcn
     obtain rfl:=aa he1
     refine ⟨σ,.refl _ _ _,(h.aZ (.c k (o+off))).C9 hb ((by grind)) rfl (fun _=>rfl) (fun d'=>jT _ _ _) fun vs T hh=>?_⟩
     obtain ⟨vs',T',hB⟩:=h.bx k cs hb
     have:=hB.cell _ _ hcn
     rw [hB.hh] at hh
     simp only [ju,Obj.cells.injEq] at hh
     rw [←hh.1]
     exact .inl ⟨rfl,VR.Ec this⟩
    ·obtain rfl:=aa he1
     exact ⟨σ,.refl _ _ _,h⟩
    ·cases he1
   ·cases he
  ·cases he
 | fzC d off=>
  simp only [gj] at he
  split at he
  ·rename_i k o hx
   split at he
   ·rename_i hm
    obtain ⟨cs,hb,he1⟩:=ah.1 he
    clear he
    split at he1
    ·rename_i t es hco
     obtain rfl:=aa he1
     obtain ⟨vs,T,hB⟩:=h.bx k cs hb
     have ho:OwnAt C.P C.W w σ (.rowC k (o+off)) ((Pl.c k (o+off)).iJ C.E=true) t es (vs.getD (o+off) undef):=hB.cell _ _ hco
     obtain ⟨h1,hi⟩:=h.C8 (pl:=.c k (o+off)) (st':=st.aK C.E.dp k (cs.set (o+off) .u)) (by simp [St.putAt,hb])
     obtain ⟨σ',hst,hc,hv,hkap⟩:=h1.freeze (ho.C4 fun _=>hm) hi
     have hbx1:(st.aK C.E.dp k (cs.set (o+off) .u)).box C.E.dp k=some (cs.set (o+off) .u):=by grind [iP]
     have hcell:(cs.set (o+off) AV.u)[o+off]? =some .u:=by
      grind
     have h2:=(hc.aZ (.c k (o+off))).C9 (x:=.l t es) (off:=o+off) (cs:=cs.set (o+off) .u) hbx1 ((by grind)) rfl (fun _=>rfl) (fun d'=>jT _ _ _) (fun vs' T' hh=>by
      rw [hkap,hB.hh] at hh
      simp only [ju,Obj.cells.injEq] at hh
      rw [←hh.1]
      exact hv)
     rw [set_set] at h2
     refine ⟨σ',hst,?_⟩
     have e1:((st.aK C.E.dp k (cs.set (o+off) .u)).aZ (.c k (o+off))).aK C.E.dp k (cs.set (o+off) (.l t es))=
       (st.aK C.E.dp k (cs.set (o+off) (.l t es))).aZ (.c k (o+off)):=by
      have:=Kf C.E.dp st k (cs.set (o+off) .u) (cs.set (o+off) (.l t es))
      unfold St.aZ
      unfold St.aK at this ⊢
      split
      ·rename_i hd;simp only [ab hd,JH]
      ·rename_i hd
       simp only [ad hd]
       congr 1
       funext k'
       simp only [aF]
       split<;>rfl
     rw [e1] at h2
     refine ⟨h2.size,h2.defers,fun d'=>?_,h2.bx,h2.hpd,h2.own,h2.bT,h2.new,h2.lay⟩
     have hnr:(st.aK C.E.dp k (cs.set (o+off) (.l t es))).rowAt C.E.dp (.c k (o+off))=none:=by
      grind [St.rowAt,iP]
     by_cases hbb:(ax (st.aK C.E.dp k (cs.set (o+off) (.l t es))).fr d').ji (.c k (o+off))=true
     ·cases hy:ax (st.aK C.E.dp k (cs.set (o+off) (.l t es))).fr d'<;>rw [hy] at hbb<;>simp [AV.ji] at hbb
      ·subst hbb;intro hs;grind
      ·subst hbb;intro t' es' hs;grind
      ·subst hbb;intro t' es' hs;grind
     ·have:=h2.fr d'
      have e2:ax ((st.aK C.E.dp k (cs.set (o+off) (.l t es))).aZ (.c k (o+off))).fr d'=ax (st.aK C.E.dp k (cs.set (o+off) (.l t es))).fr d':=by
       grind [St.aZ,mJ]
      rw [e2] at this
      exact this.Fp (by grind [Nj])
    ·obtain rfl:=aa he1
     exact ⟨σ,.refl _ _ _,h⟩
    ·obtain rfl:=aa he1
     exact ⟨σ,.refl _ _ _,h.LM hb⟩
    ·obtain rfl:=aa he1
     exact ⟨σ,.refl _ _ _,h⟩
    ·cases he1
   ·cases he
  ·cases he
 | fzB d agg=>
  simp only [gj] at he
  split at he
  ·rename_i k hx
   split at he
   ·rename_i hkd
    obtain ⟨cs,hb,he1⟩:=ah.1 he
    clear he
    split at he1
    ·rename_i hp
     have hb':st.box C.E.dp k=some cs:=by simp [St.box,hkd,hb]
     obtain ⟨vs,T,hB⟩:=h.bx k cs hb'
     have hs:=h.fr d
     rw [hx] at hs
     have hv:=VR.xm hs
     have hpl:=ft hp
     have hno:∀ c∈cs,∀ t es,c≠.o t es:=fun c hc t es e=>by have:=hpl c hc;rw [e] at this;cases this
     have hone:∀ c∈cs,c.one=true:=fun c hc=>(hB.one c hc).resolve_right fun e=>by have:=hpl c hc;rw [e] at this;cases this
     have h1:au C {st with bx:=st.bx.filter fun y=>y.1 !=k.d} a w σ:=by
      refine h.Bs (fun _=>.inr rfl) (fun k' cs' hk=>?_) (fun _ _ _ h=>h)
      by_cases hd:k'.dp=C.E.dp
      ·simp only [St.box,hd,aq] at hk ⊢
       have hf:∀ bx:List (Nat×List AV),aO (bx.filter fun y=>y.1 !=k.d) k'.d=some cs'→aO bx k'.d=some cs':=by
        intro bx
        induction bx with
        | nil=>exact id
        | cons z bx ih=>
         intro hz
         simp only [List.filter_cons] at hz
         split at hz
         ·grind [aO]
         ·rename_i hne
          simp only [aO]
          split
          ·rename_i e
           exfalso
           have h3:z.1=k.d:=by simpa using hne
           have hf2:∀ bx:List (Nat×List AV),aO (bx.filter fun y=>y.1 !=k.d) k.d=none:=by
            intro bx
            induction bx with
            | nil=>rfl
            | cons y bx ih=>
             grind [aO]
           grind
          ·exact ih hz
       exact hf _ hk
      grind [St.box]
     have hgone:({st with bx:=st.bx.filter fun y=>y.1 !=k.d} : St).box C.E.dp k=none:=by
      simp only [St.box,hkd,aq]
      have hf2:∀ bx:List (Nat×List AV),aO (bx.filter fun y=>y.1 !=k.d) k.d=none:=by
       intro bx
       induction bx with
       | nil=>rfl
       | cons y bx ih=>
        grind [aO]
      exact hf2 _
     have hi:Idle C {st with bx:=st.bx.filter fun y=>y.1 !=k.d} (some (.box k)):=
      ⟨fun _ _ _ _=>by simp,by grind,fun _ _ _ _ _ _ _=>by simp,fun _=>by simp,by simp⟩
     have h2:=h1.Pz hB.ow hi
     have hW:C.W (σ.κ k):=hB.wr (As hkd)
     have hlt:d<C.nt:=LN (x:=.p k 0) h hv (by simp [undef])
     have hfin:∀ x:AV,x.cl=cs→x.pure=true→(∀ t es,x≠.o t es)→au C {(st.cV d (.e x 0)) with bx:=st.bx.filter fun y=>y.1 !=k.d} a w (σ.eN (σ.κ k)):=by
      intro x hcl hxp _
      refine h2.cV (d:=d) (x:=.e x 0) ?_ (fun _ _ e=>by cases e) hlt
      rw [hv]
      have:=VR.e (w:=w) (I:=(σ.eN (σ.κ k)).I) (κ:=(σ.eN (σ.κ k)).κ) x 0 (σ.κ k) 0 vs T (0,0) (.inr rfl) hB.hh hxp (by unfold AV.nc;rw [hcl];have:=hB.size;omega) (by grind) (fun m c hm=>by
       rw [hcl] at hm
       rw [eU]
       have hcm:=aL hm
       exact (LO (hpl c hcm) (hB.cell m c hm)).Aq (fun _ h=>.inl h) (fun _ _=>rfl) (hpl c hcm))
      exact this
     split at he1
     ·obtain rfl:=aa he1
      exact ⟨_,.eN hW,hfin (.a cs) rfl (jo hpl) (fun _ _ e=>by cases e)⟩
     ·split at he1
      ·rename_i c
       obtain rfl:=aa he1
       have hc1:=hone c (by simp)
       have hcl:c.cl=[c]:=by cases c<;>first | rfl | (simp [AV.one] at hc1)
       exact ⟨_,.eN hW,by grind⟩
      ·cases he1
    ·cases he1
   ·cases he
  ·cases he
 | pF d off nd sz=>
  simp only [gj] at he
  split at he
  ·rename_i k o hx
   split at he
   ·rename_i hkd
    obtain ⟨cs,hb,he1⟩:=ah.1 he
    clear he
    have hb':st.box C.E.dp k=some cs:=by simp [St.box,hkd,hb]
    split at he1
    ·rename_i t es hco
     split at he1
     ·rename_i hem
      obtain rfl:=aa he1
      obtain rfl:es=[]:=by simpa using hem
      obtain ⟨vs,T,hB⟩:=h.bx k cs hb'
      have ho:OwnAt C.P C.W w σ (.rowC k (o+off)) ((Pl.c k (o+off)).iJ C.E=true) t [] (vs.getD (o+off) undef):=hB.cell _ _ hco
      obtain ⟨h1,hi⟩:=h.C8 (pl:=.c k (o+off)) (st':=st.aK C.E.dp k (cs.set (o+off) .u)) (by simp [St.putAt,hb'])
      have hb1:((st.aK C.E.dp k (cs.set (o+off) .u)).aZ (.c k (o+off))).box C.E.dp k=some (cs.set (o+off) .u):=by grind [C2,iP]
      refine ⟨σ,.refl _ _ _,(h1.aZ (.c k (o+off))).C9 (x:=.l t []) (off:=o+off) hb1 ((by grind)) rfl (fun _=>rfl) (fun d'=>jT _ _ _) (fun vs' T' hh=>?_)⟩
      rw [hB.hh] at hh
      simp only [ju,Obj.cells.injEq] at hh
      rw [←hh.1]
      rcases ho with ⟨_,hv⟩ | ⟨g,cap,cs',hv,_⟩
      ·rw [hv];exact VR.lnil _ _ _
      ·rw [hv];exact VR.lnil _ _ _
     ·rename_i hem
      split at he1
      ·rename_i hc
       obtain rfl:=aa he1
       simp only [aA] at hc
       exact h.pF hkd hb hco (fun e=>hem (by simp [e])) ((by grind)) hc.2
      ·cases he1
    ·obtain rfl:=aa he1
     exact ⟨σ,.refl _ _ _,h⟩
    ·cases he1
   ·cases he
  ·cases he
 | unp d off=>
  simp only [gj] at he
  split at he
  ·rename_i k o hx
   split at he
   ·rename_i hkd
    obtain ⟨cs,hb,he1⟩:=ah.1 he
    clear he
    split at he1
    ·rename_i k2 n sz hco
     split at he1
     ·rename_i hk2
      obtain ⟨cs2,hb2,he2⟩:=ah.1 he1
      split at he2
      ·rename_i hc
       obtain rfl:=aa he2
       simp only [aA,df] at hc
       exact h.ahA hkd hb hco hk2.1 hk2.2 hb2 hc.1.1 hc.1.2 hc.2
      ·cases he2
     ·cases he1
    ·obtain rfl:=aa he1
     exact ⟨σ,.refl _ _ _,h⟩
    ·cases he1
   ·cases he
  ·cases he
theorem au.pre:∀ (ps:List uD){st st':St}{σ:Sp},au C st a w σ→qW C.E st ps=some st'→∃ σ',cM C w σ w σ'∧au C st' a w σ'
 | [],st,st',σ,h,he=>by obtain rfl:=aa he;exact ⟨σ,.refl _ _ _,h⟩
 | p::ps,st,st',σ,h,he=>by
  obtain ⟨st1,h1,h2⟩:=ah.1 he
  obtain ⟨σ1,hs1,hc1⟩:=h.abV h1
  obtain ⟨σ2,hs2,hc2⟩:=au.pre ps hc1 h2
  exact ⟨σ2,hs1.trans hs2,hc2⟩
end
end Go.Proofs.YtkkkkondjclcnaaGreat.A
