/- append: the model does what the abstract run says. -/
import Derived.Test.YtlmphbbhaeampaaGreatAbsA
set_option linter.all false
namespace Go.Proofs.YtlmphbbhaeampaaGreat.A
open Go
variable [cj]
structure Flat(w:World)(I:Nat→Prop)(κ:Key→Nat)(sz:Nat)(es:List AV)(vs:List Value):Prop where
 len:vs.length=es.length*sz
 nc:∀ e∈es,e.nc=sz
 pure:∀ e∈es,e.pure=true
 one:∀ e∈es,∀ c∈e.cl,c.one=true
 cell:∀ (j:Nat)(e:AV)(m:Nat)(c:AV),es[j]? =some e→e.cl[m]? =some c→VR w I κ c (vs[j*sz+m]?.getD undef)
section
variable {w:World}{I:Nat→Prop}{κ:Key→Nat}{sz:Nat}
theorem A3{e:AV}{j m n:Nat}(hj:j<n)(hm:m<e.cl.length)(he:e.nc=sz):j*sz+m<n*sz:=by
 have:(j+1)*sz≤n*sz:=fL _ hj
 rw [eY] at this
 have cB:e.cl.length=sz:=he
 omega
theorem Flat.nil:Flat w I κ sz [] []:=⟨by simp,by simp,by simp,by simp,fun j e m c h=>by simp at h⟩
theorem Flat.append{es fs:List AV}{vs us:List Value}(h:Flat w I κ sz es vs)(h':Flat w I κ sz fs us):Flat w I κ sz (es++fs) (vs++us):=by
 refine ⟨by simp [h.len,h'.len,eY],fun e he=>?_,fun e he=>?_,fun e he=>?_,fun j e m c hj hm=>?_⟩
 ·rcases eh.1 he with he | he
  ·exact h.nc e he
  ·exact h'.nc e he
 ·rcases eh.1 he with he | he
  ·exact h.pure e he
  ·exact h'.pure e he
 ·rcases eh.1 he with he | he
  ·exact h.one e he
  ·exact h'.one e he
 ·have bg:=dC hm
  rw [o8] at hj
  split at hj
  ·rename_i ar
   have:=A3 ar bg (h.nc e (bu hj))
   rw [o8,af (by rw [h.len];exact this)]
   exact h.cell j e m c hj hm
  ·rename_i bs
   have hle:es.length*sz≤j*sz:=fL _ (by omega)
   rw [o8,ab (by rw [h.len];omega),h.len]
   have:=h'.cell (j - es.length) e m c hj hm
   grind [Nat.sub_mul]
theorem Flat.acG{es:List AV}{vs:List Value}(h:Flat w I κ sz es vs):∀ u∈vs,u.oneCell'=true:=by
 intro u hu
 obtain ⟨i,hi⟩:=ey.1 hu
 have cm:=dC hi
 rw [h.len] at cm
 have aJ:0<sz:=by grind
 have hj:i / sz<es.length:=Nat.div_lt_of_lt_mul (by grind)
 have hm:i % sz<sz:=Nat.mod_lt _ aJ
 have he:=cp hj
 have bg:i % sz<(es[i / sz]).cl.length:=by
  have:(es[i / sz]).cl.length=sz:=h.nc _ he
  omega
 have:=h.cell _ _ _ _ (aV hj) (aV bg)
 rw [sO,Nat.div_add_mod,hi] at this
 exact this.IF (h.one _ he _ (cp bg))
theorem Flat.FW{es:List AV}{cs:Array Value}{o:Nat}(al:∀ e∈es,e.nc=sz)(hp:∀ e∈es,e.pure=true)(h1:∀ e∈es,∀ c∈e.cl,c.one=true)(hs:o+es.length*sz≤cs.size)
  (hc:∀ (j:Nat)(e:AV)(m:Nat)(c:AV),es[j]? =some e→e.cl[m]? =some c→VR w I κ c (cs.getD (o+j*sz+m) undef)):Flat w I κ sz es ((cs.toList.drop o).take (es.length*sz)):=by
 refine ⟨by simp;omega,al,hp,h1,fun j e m c hj hm=>?_⟩
 grind [A3,Array.getD_eq_getD_getElem?]
theorem B8{g o n:Nat}{cs:Array Value}{T:TypeId}{fz:Nat×Nat}(hh:w.heap[g]? =some (.cells cs T fz)):∀ j u,((cs.toList.drop o).take n)[j]? =some u→w.cell? ((⟨g,o,none⟩:Addr).add j)=some u:=by
 grind [add_lit,uZ]
end
section
variable {C:Cx}{st:St}{a:Act}{w:World}{σ:Sp}{o:Oper}{d:Option Nat}{R:Rec}{Ω:dK}{r:AV×St}
theorem fv.flat{L:eI}{wp:Prop}{t:TypeId}{es:List AV}{g cap:Nat}{cs:Array Value}(hR:fv C.P C.W w σ L wp t es g cap cs):Flat w σ.I σ.κ (C.P.cellsOf t) es ((cs.toList.drop 0).take (es.length*C.P.cellsOf t)):=
 .FW hR.nc hR.pure hR.one (by rw [hR.size,gO];exact fL _ hR.ecap) (fun j e m c hj hm=>by rw [gO];exact hR.cell j e m c hj hm)
theorem Flat.part{sz lo len:Nat}{es:List AV}{vs:List Value}{I:Nat→Prop}{κ:Key→Nat}(h:Flat w I κ sz es vs)(hle:lo+len≤es.length):Flat w I κ sz ((es.drop lo).take len) ((vs.drop (lo*sz)).take (len*sz)):=by
 have hm:∀ e∈(es.drop lo).take len,e∈es:=by grind
 refine ⟨?_,fun e he=>h.nc e (hm e he),fun e he=>h.pure e (hm e he),fun e he=>h.one e (hm e he),fun j e m c hj hq=>?_⟩
 ·have:(lo+len)*sz≤es.length*sz:=fL _ hle
  rw [eY] at this
  have e1:min len (es.length - lo)=len:=by omega
  simp [h.len,e1];omega
 ·rw [mn] at hj
  split at hj
  ·rename_i ar
   rw [nS] at hj
   have:=A3 ar (dC hq) (h.nc e (bu hj))
   rw [mn,af this,nS]
   have hv:=h.cell _ e m c hj hq
   grind
  ·cases hj
theorem aw.src(h:aw C st a w σ){y:Operand}{x:bz}{q:TypeId×List AV}{sz:Nat}{tx e':TypeId}(hk:C.P.underlying tx=some (.slice e'))(hl:bY y x=true)(he:st.elems C.E.dp (st.ev x)=some q)(al:∀ e∈q.2,e.nc=sz) :
  ∃ news,Src C.P sz tx (a.eval y) q.2.length news w∧Flat w σ.I σ.κ sz q.2 news∧(q.2≠[]→∃ b n c,a.eval y= .slice (some b) n c∧n=q.2.length∧∀ j u,news[j]? =some u→w.cell? (b.add j)=some u):=by
 have aM:∀ A c,a.eval y= .slice A 0 c→q.2=[]→∃ news,Src C.P sz tx (a.eval y) q.2.length news w∧Flat w σ.I σ.κ sz q.2 news∧(q.2≠[]→∃ b n c,a.eval y= .slice (some b) n c∧n=q.2.length∧∀ j u,news[j]? =some u→w.cell? (b.add j)=some u):=by
  intro A c hv hq
  refine ⟨[],?_,by rw [hq];exact .nil,fun F=>absurd hq F⟩
  rw [hv,hq]
  cases A with
  | none=>exact Src.ofNil w hk c
  | some b=>grind [Src.ofSlice]
 have Z:∀ b n c news,a.eval y= .slice (some b) n c→n=q.2.length→Flat w σ.I σ.κ sz q.2 news→(∀ j u,news[j]? =some u→w.cell? (b.add j)=some u)→
   ∃ news,Src C.P sz tx (a.eval y) q.2.length news w∧Flat w σ.I σ.κ sz q.2 news∧(q.2≠[]→∃ b n c,a.eval y= .slice (some b) n c∧n=q.2.length∧∀ j u,news[j]? =some u→w.cell? (b.add j)=some u):=by
  intro b n c news hv hn hf B
  refine ⟨news,?_,hf,by grind⟩
  rw [hv,hn]
  exact Src.ofSlice w hk b _ c news hf.len B hf.acG
 have J:∀ pl t es,st.rowAt C.E.dp pl=some (t,es)→a.eval y=gm w σ a pl→q=(t,es)→
   ∃ news,Src C.P sz tx (a.eval y) q.2.length news w∧Flat w σ.I σ.κ sz q.2 news∧(q.2≠[]→∃ b n c,a.eval y= .slice (some b) n c∧n=q.2.length∧∀ j u,news[j]? =some u→w.cell? (b.add j)=some u):=by
  intro pl t es hr hv hq
  subst hq
  rcases h.row hr with ⟨h1,h2⟩ | ⟨g,cap,cs,h2,hR⟩
  ·grind
  ·by_cases F:es=[]
   ·grind
   ·have H:C.P.cellsOf t=sz:=by
     cases es with
     | nil=>grind
     | cons e es=>exact (hR.nc e (by simp)).symm.trans (al e (by simp))
    have hf:=hR.flat
    rw [H] at hf
    exact Z _ _ cap _ (hv.trans h2) rfl hf (B8 hR.hh)
 cases hx:st.ev x with
 | l t es=>
  rw [hx] at he
  obtain rfl:=ah he
  obtain ⟨A,cap,hv,bS⟩:=(hx▸h.e7 hl (by rw [hx];simp) (by rw [hx];rfl)).Lf
  rcases bS with bS | ⟨g,o,cs,T,fz,sz',rfl,hI,hh,ht,aJ,aN,a0,hp,h1,cr,a4,hc⟩
  ·grind
  ·by_cases F:es=[]
   ·grind
   ·have H:sz'=sz:=by
     cases es with
     | nil=>grind
     | cons e es=>simp_all
    subst H
    exact Z _ _ cap _ hv rfl (.FW aN hp h1 a0 hc) (B8 hh)
 | n=>
  rw [hx] at he
  obtain rfl:=ah he
  exact aM none 0 (hx▸h.e7 hl (by rw [hx];simp) (by rw [hx];rfl)).EP rfl
 | o t es=>
  rw [hx] at he
  obtain rfl:=ah he
  obtain ⟨n,rfl,hn⟩:=ej hx rfl hl
  exact J (.s n) t es (by simp [St.rowAt,hn]) (by rw [yb hl];rfl) rfl
 | r pl=>
  rw [hx] at he
  obtain ⟨n,rfl,hn⟩:=ej hx rfl hl
  have hr:st.rowAt C.E.dp pl=some q:=he
  exact J pl q.1 q.2 hr ((hn▸h.slot hl) (by rw [hr];rfl)) rfl
 | v pl lo len=>
  rw [hx] at he
  obtain ⟨n,rfl,hn⟩:=ej hx rfl hl
  simp only [St.elems] at he
  split at he
  ·rename_i t es hr
   split at he
   ·rename_i a6
    obtain rfl:=ah he
    obtain ⟨A,n',cap,bf,hv⟩:=(hn▸h.slot hl) t es hr a6
    have hlen:((es.drop lo).take len).length=len:=by simp;omega
    by_cases F:len=0
    ·grind
    ·obtain ⟨g,cap',cs,b9,hR⟩:=h.B3 hr ((by grind))
     obtain ⟨rfl,rfl,rfl⟩:A=some ⟨g,0,none⟩∧n'=es.length∧cap=cap':=by
      grind
     have cn:=hR.ecap
     have H:C.P.cellsOf t=sz:=by
      cases hq:(es.drop lo).take len with
      | nil=>grind
      | cons e fs=>
       have he:e∈(es.drop lo).take len:=by rw [hq];simp
       exact (hR.nc e ((by grind))).symm.trans (al e he)
     rw [ab (by omega),H] at hv
     simp only [jf,add_lit,gO] at hv
     refine Z ⟨g,lo*sz,none⟩ len (cap - lo) ((cs.toList.drop (lo*sz)).take (((es.drop lo).take len).length*sz)) hv hlen.symm ?_ (B8 hR.hh)
     refine .FW al (fun e he=>hR.pure e ((by grind))) (fun e he=>hR.one e ((by grind))) ?_ fun j e m c hj hm=>?_
     ·rw [hlen,hR.size,H,←eY]
      exact fL _ (by omega)
     ·rw [mn] at hj
      split at hj
      ·rw [nS] at hj
       have:=hR.cell _ e m c hj hm
       grind
      ·cases hj
   ·cases he
  ·cases he
 | _=>rw [hx] at he;cases he
theorem aw.LK{k:Key}{cs:List AV}{off:Nat}(h:aw C st a w σ)(hb:st.box C.E.dp k=some cs):aw C (st.aW C.E.dp k (cs.set off .u)) a w σ:=by
 have ae:=fun k'=>jj (cs':=cs.set off .u) hb k'
 have ba:∀ (i:Nat)(c:AV),(cs.set off AV.u)[i]? =some c→c=AV.u∨cs[i]? =some c:=by
  grind
 refine ⟨h.size,h.defers,fun d=>?_,fun k' cs' hk=>?_,fun k' cs' hk S=>?_,h.own,h.cz,h.new,h.lay⟩
 ·rw [oU]
  refine (h.fr d).FU fun pl _ ⟨r,hr⟩=>⟨?_,rfl⟩
  rw [hr]
  cases pl with
  | s d'=>grind [rl]
  | c k' off'=>
   simp only [St.rowAt,ae] at hr ⊢
   by_cases hk:k'=k
   ·subst hk
    simp only [aA] at hr
    cases hc:(cs.set off AV.u)[off']? with
    | none=>simp [hc] at hr
    | some c=>
     rw [hc] at hr
     rcases ba _ _ hc with rfl | h2
     ·simp at hr
     ·simp only [hb,h2];exact hr.symm
   ·simp only [ab hk] at hr
    exact hr.symm
 ·rw [ae] at hk
  by_cases aa:k'=k
  ·subst aa
   simp only [aA] at hk
   obtain rfl:=ah hk
   obtain ⟨vs,T,hB⟩:=h.bx k' cs hb
   refine ⟨vs,T,hB.hh,by simpa using hB.size,hB.ow,hB.wr,fun c hm=>?_,fun i c hi=>?_,fun t kk u ht=>(ka ht).elim (fun hm=>by simpa using hB.ty t kk u hm) (fun e=>by cases e),hB.kb⟩
   ·rcases ka hm with hm | rfl
    ·exact hB.one c hm
    ·exact .inr rfl
   ·rcases ba i c hi with rfl | h2
    ·exact VR.u _
    ·exact hB.cell i c h2
  ·simp only [ab aa] at hk
   exact h.bx k' cs' hk
 ·by_cases G:k.dp=C.E.dp
  ·simp only [St.aW,G,aA] at S
   exact h.hpd k' cs' hk S
  ·simp only [St.aW,ab G,aq] at S
   split at S
   ·rename_i aa
    subst aa
    obtain rfl:=ah S
    have hold:=h.hpd k' cs hk (by grind [St.box])
    refine ⟨hold.1,fun c hm=>?_⟩
    rcases ka hm with hm | rfl
    ·exact hold.2 c hm
    ·rfl
   ·exact h.hpd k' cs' hk S
theorem aw.A4{pl:Pl}{st':St}(h:aw C st a w σ)(hp:st.putAt C.E.dp .u pl=some st'):aw C st' a w σ∧Idle C st' (some (pl.qf C.E.dp)):=by
 cases pl with
 | s d=>
  obtain rfl:=ah hp
  exact ⟨h.LI d,wE (by grind [ma])⟩
 | c k off=>
  simp only [St.putAt] at hp
  split at hp
  ·rename_i cs hb
   obtain rfl:=ah hp
   refine ⟨h.LK hb,⟨fun _ _ _ _=>by simp [Pl.qf],fun _ _ _=>by simp [Pl.qf],fun k' cs' off' t es hk hc e=>?_,fun _=>by simp [Pl.qf],by simp [Pl.qf]⟩⟩
   grind [Pl.qf,jj]
  ·cases hp
theorem aw.consume(h:aw C st a w σ){y:Operand}{x:bz}{t:TypeId}{q:List AV×St}(hl:bY y x=true)(he:consume C.E st t x=some q) :
  aw C q.2 a w σ∧((q.1=[]∧a.eval y= .slice none 0 0)∨
   ∃ L g cap cs,a.eval y= .slice (some ⟨g,0,none⟩) q.1.length cap∧fv C.P C.W w σ L True t q.1 g cap cs∧Idle C q.2 (some L)):=by
 have ad:∀ {pl es st' v},aw C st' a w σ→Idle C st' (some (Pl.qf C.E.dp pl))→OwnAt C.P C.W w σ (pl.qf C.E.dp) True t es v→a.eval y=v→q=(es,st')→
   aw C q.2 a w σ∧((q.1=[]∧a.eval y= .slice none 0 0)∨∃ L g cap cs,a.eval y= .slice (some ⟨g,0,none⟩) q.1.length cap∧fv C.P C.W w σ L True t q.1 g cap cs∧Idle C q.2 (some L)):=by
  intro pl es st' v hc hi ho hv hq
  subst hq
  refine ⟨hc,?_⟩
  rcases ho with ⟨h1,h2⟩ | ⟨g,cap,cs,h2,hR⟩
  ·grind
  grind
 unfold A.consume at he
 split at he
 ·obtain rfl:=ah he
  exact ⟨h,.inl ⟨rfl,(h.ta (x:=.c .n) hl rfl).EP⟩⟩
 ·cases he
 ·rename_i m
  have hs:=h.slot hl
  split at he
  ·rename_i hx
   obtain rfl:=ah he
   rw [hx] at hs
   exact ⟨h,.inl ⟨rfl,VR.EP hs⟩⟩
  ·rename_i t' es hx
   split at he
   ·rename_i aH
    subst aH
    rw [hx] at hs
    exact ad (pl:=.s m) (h.LI m) (wE (by grind [ma])) hs rfl (ah he).symm
   ·cases he
  ·rename_i pl hx
   split at he
   ·rename_i hm
    obtain ⟨⟨t',es⟩,hr,f⟩:=aj.1 he
    clear he
    simp only at f
    split at f
    ·rename_i aH
     subst aH
     obtain ⟨st',hp,am⟩:=aj.1 f
     clear f
     obtain ⟨h1,h2⟩:=h.A4 hp
     rw [hx] at hs
     exact ad h1 h2 ((h.row hr).DP fun _=>hm) (hs (by rw [hr];rfl)) (ah am).symm
    ·cases f
   ·cases he
  ·rename_i pl lo len hx
   split at he
   ·rename_i hm
    simp only [aL,dH] at hm
    obtain ⟨hm,cg⟩:=hm
    obtain ⟨⟨t',es⟩,hr,f⟩:=aj.1 he
    clear he
    simp only at f
    split at f
    ·rename_i aH
     obtain ⟨hle,aH⟩:=aH
     obtain ⟨st',hp,am⟩:=aj.1 f
     clear f
     obtain ⟨h1,h2⟩:=h.A4 hp
     rw [hx] at hs
     subst cg
     have hv:=hs t' es hr (by omega)
     subst aH
     exact ad h1 h2 (((h.row hr).short hle hv).DP fun _=>hm) rfl (ah am).symm
    ·cases f
   ·cases he
  ·cases he
theorem acH{t sz by_:Nat}{x y:bz}(h:aw C st a w σ)(hl:bN C.P (.ap t sz by_ x y) o.op=true)(he:execOp R Ω C.E st d (.ap t sz by_ x y)=some r) :
  ei C o d a w σ r.2 r.1:=by
 obtain ⟨c,x',y',ty,ca,ct,bU,b4,cf,ce,b5,H,cF,hz⟩:∃ c x' y' ty,o.op= .call c∧c.callee= .builtin .append∧c.args.toList=[x',y']∧c.argTypes.toList=[ty,ty]∧bY x' x=true∧bY y' y=true∧
   kQ C.P ty=some t∧sized C.P t sz=true∧C.P.bytesOf t=by_∧∃ zv,zeroOf C.P t=some zv∧zv.cells.size=sz:=by
  simp only [bN] at hl;grind
 obtain ⟨zv,bW,bZ⟩:=hz
 have hu:=yu b5
 obtain ⟨i,hi,ck⟩:=xE bW
 obtain ⟨_,K,aJ⟩:=nx H
 have au:i.size=sz:=by grind [Program.cellsOf]
 have bq:i.bytes=by_:=by grind [Program.bytesOf]
 have bI:c.args=#[x',y']:=by grind
 have bL:c.argTypes=#[ty,ty]:=by grind
 have an:∀ cv w',(Builtin.append_ #[ty,ty] o.type #[a.eval x',a.eval y']).run C.P w= .ok cv w'→(Go.execOp a.eval o).run C.P w= .ok (.value cv) w':=by
  simp_all [Go.execOp,resolve,invoke,builtin]
 simp only [execOp] at he
 obtain ⟨dd,aX,f⟩:=aj.1 he
 clear he
 obtain ⟨ys,b0,am⟩:=aj.1 f
 clear f
 obtain ⟨q,hq,bw⟩:=aj.1 am
 clear am
 split at bw
 ·rename_i aF
  simp only [aL,eg] at aF
  obtain ⟨⟨al,aS⟩,a4⟩:=aF
  obtain rfl:=ah bw
  have aN:∀ e∈ys.2,e.nc=sz:=by grind
  obtain ⟨news,b6,hf,b8⟩:=h.src (sz:=sz) hu ce b0 aN
  obtain ⟨hc,bA⟩:=h.consume cf hq
  have Y:Src C.P i.size ty (a.eval y') ys.2.length news w:=by grind
  have a5:(((q.1.length+ys.2.length:Nat):Int))≤9223372036854775807:=by grind [maxLen]
  have ac:∀ A cap olds,a.eval x'= .slice A q.1.length cap→q.1.length≤cap→(Builtin.firstCells i.size q.1.length (.slice A q.1.length cap)).run C.P w.drew= .ok olds.toArray w.drew→Flat w σ.I σ.κ sz q.1 olds→
    cap<q.1.length+ys.2.length→ei C o d a w σ (q.2.bC (.s dd)) (.o t (q.1++ys.2)):=by
   intro A cap olds hv hle hold av ar
   have aT:=run_append_grow_src (P:=C.P) w ty ty o.type t i zv hu hi ck A q.1.length cap olds hold _ _ news Y ar a5
    (growslice_fits ar (by rw [bq];exact aS))
   have bs:=grownCap_ge w (q.1.length+ys.2.length) cap t
   have bQ:=grownCap_le_maxLen w (q.1.length+ys.2.length) cap t a4
   generalize hN:grownCap w (q.1.length+ys.2.length) cap t=N at aT bs bQ
   have V:=av.append hf
   have hlen:(olds++news).length=(q.1.length+ys.2.length)*sz:=by rw [V.len,nU]
   obtain ⟨σ',aI,S,ho,_⟩:=(hc.bC (.s dd)).drew.newRow (L:=.rowS C.E.dp dd) (t:=t) (es:=q.1++ys.2) (cap:=N) (cs:=(olds++news).toArray++Builtin.zeroCells zv.cells (N - (q.1.length+ys.2.length)))
    (by omega) (fun e he=>by rw [K];exact V.nc e he) (by simpa using bs) bQ
    (by
     rw [Array.size_append,size_zeroCells,bZ,K,uN,hlen,←eY]
     congr 1;omega) V.pure V.one (fun j e m c hj bM=>by
      have ao:=A3 (dC hj) (dC bM) (V.nc e (bu hj))
      rw [nU] at ao
      rw [K,eL,zD,af (by grind),zC]
      exact (V.cell j e m c hj bM).mono (fun _ h=>h) (fun _ _=>rfl) (fun _ _=>rfl))
   rw [nU] at ho
   exact .jh (an _ _ (by rw [hv];exact aT)) (aw.td aX aI.drew S ho)
  rcases bA with ⟨h1,h2⟩ | ⟨L,g,cap,cs,hv,hR,hid⟩
  ·
   rw [h1] at ac a5 ⊢
   by_cases O:ys.2=[]
   ·have aT:=run_append_nothing (P:=C.P) w ty ty o.type t i hu hi none 0 0 (aY _) (a.eval y') (by
     have:=Y
     rw [O] at this
     have hn:news=[]:=wm (by rw [hf.len,O];simp)
     grind)
    rw [O]
    exact .jh (an _ _ (by grind)) (aw.td aX (.refl _ _ _) (hc.bC _) (.inl ⟨rfl,rfl⟩))
   ·have a3:0<ys.2.length:=by grind
    exact ac none 0 [] h2 (aY _) (by rw [run_firstCells_none]) .nil (by simpa using a3)
  ·have X:C.P.cellsOf t=sz:=K
   by_cases O:ys.2=[]
   ·have aT:=run_append_nothing (P:=C.P) w ty ty o.type t i hu hi (some ⟨g,0,none⟩) q.1.length cap hR.ecap (a.eval y') (by
     have:=Y
     rw [O] at this
     have hn:news=[]:=wm (by rw [hf.len,O];simp)
     grind)
    rw [O,zE]
    refine .jh (an _ _ (by grind)) (aw.td aX (.relabel (hR.wr trivial)) ((hc.relabel hR.ow hid).bC _) (.inr ⟨g,cap,cs,rfl,hR.relabel⟩))
   ·by_cases aB:q.1.length+ys.2.length≤cap
    ·obtain ⟨b,n,c',b2,hn,B⟩:=b8 O
     have bt:q.1.length*i.size+news.length≤cs.size:=by
      rw [hf.len,hR.size,au,X,←eY];exact fL _ aB
     have aT:=run_append_room (P:=C.P) w ty o.type t i hu hi g q.1.length cap cs hR.hh b n c' news (by rw [au,hn];exact hf.len) B hf.acG (by grind) bt
     have hw:((cs.toList.take (q.1.length*i.size)++news++cs.toList.drop (q.1.length*i.size+news.length)).toArray)=rR cs (q.1.length*sz) news:=by rw [au];rfl
     rw [hw,hn] at aT
     have aE:q.1.length*sz+news.length≤cs.size:=by grind
     have ay:=iY.setRow hc hR.ow (rR cs (q.1.length*sz) news)
     have S:=hc.Lb ay hid
     have aI:=cX.setRow hc hR.ow (hR.wr trivial) (rR cs (q.1.length*sz) news)
     have av:=hR.flat
     rw [X] at av
     have V:=av.append hf
     have cw:fv C.P C.W (w.setRow g (rR cs (q.1.length*sz) news)) σ L True t (q.1++ys.2) g cap (rR cs (q.1.length*sz) news):=by
      refine ⟨hR.ow,hR.wr,setRow_heap w _ _ _ _ _ hR.hh,hR.pos,fun e he=>by rw [X];exact V.nc e he,by simpa using aB,hR.max,by rw [B6 _ _ _ aE,hR.size],V.pure,V.one,fun j e m c hj hm=>?_,hR.base⟩
      have bk:=V.cell j e m c hj hm
      have ao:=A3 (dC hj) (dC hm) (V.nc e (bu hj))
      rw [X,B7 _ _ _ aE]
      refine VR.same ay ?_
      have cb:((cs.toList.drop 0).take (q.1.length*sz)).length=q.1.length*sz:=av.len
      rw [o8,cb] at bk
      rw [nU,eY] at ao
      by_cases ci:j*sz+m<q.1.length*sz
      ·grind [Array.getD_eq_getD_getElem?]
      ·rw [ab ci] at bk
       rw [af ⟨by omega,by rw [hf.len];exact ao⟩]
       exact bk
     refine .jh (an _ _ (by rw [hv,b2,hn];exact aT)) (aw.td aX (aI.trans (.relabel (hR.wr trivial))) ((S.relabel hR.ow hid).bC _) (.inr ⟨g,cap,_,by rw [nU],cw.relabel⟩))
    ·have av:=hR.flat
     rw [X] at av
     refine ac (some ⟨g,0,none⟩) cap _ hv hR.ecap (run_firstCells_some w.drew i.size _ _ _ _ _ (by rw [au];exact av.len) (fun j u hj=>?_)) av (by omega)
     have:=B8 hR.hh j u hj
     simpa using this
 ·cases bw
end
variable [cj]
section
variable {C:Cx}{st:St}{a:Act}{w:World}{σ:Sp}{o:Oper}{d:Option Nat}{R:Rec}{Ω:dK}{r:AV×St}
def Sp.fg(σ:Sp)(g:Nat):Sp:={σ with ow:=fun b=>if b=g then none else σ.ow b,I:=fun b=>σ.I b∨b=g}
theorem aw.PN{g:Nat}{L:eI}(h:aw C st a w σ)(hg:σ.ow g=some L)(hi:Idle C st (some L)):aw C st a w (σ.fg g):=by
 refine h.Lb (L:=some L) ⟨fun b l hb hl=>⟨rfl,?_⟩,fun _ _=>rfl,fun _ h=>.inl h,rfl,aY _,fun b l hb=>?_,fun b hb=>?_⟩ hi
 ·grind [Sp.fg]
 ·simp only [Sp.fg] at hb
  split at hb
  ·cases hb
  ·exact h.own b l hb
 ·rcases hb with hb | rfl
  ·obtain ⟨h1,h2⟩:=h.cz b hb
   grind [Sp.fg]
  ·exact ⟨h.own _ _ hg,by simp [Sp.fg]⟩
theorem cX.fg{g:Nat}(hW:C.W g):cX C w σ w (σ.fg g):=
 ⟨aY _,fun _ _ _=>rfl,fun _ h=>.inl h,fun _ _=>rfl,fun b hb=>hb.elim .inl (by grind),fun _ _=>rfl,fun b _ hb=>ab (fun e=>hb (by rw [e];exact hW)),rfl,rfl⟩
theorem fv.cz{P:Program}{W:Nat→Prop}{L:eI}{wp:Prop}{t:TypeId}{es:List AV}{g cap lo len:Nat}{cs:Array Value}{I:Nat→Prop}(hR:fv P W w σ L wp t es g cap cs)(hI:∀ b,σ.I b→I b)(hg:I g)
  (hle:lo+len≤es.length):VR w I σ.κ (.l t ((es.drop lo).take len)) (.slice (some ⟨g,lo*P.cellsOf t,none⟩) len (cap - lo)):=by
 have hm:∀ e∈(es.drop lo).take len,e∈es:=by grind
 have hlen:((es.drop lo).take len).length=len:=by simp;omega
 have cn:=hR.ecap
 have:=VR.l (w:=w) (I:=I) (κ:=σ.κ) t ((es.drop lo).take len) g (lo*P.cellsOf t) (cap - lo) cs t (0,0) (P.cellsOf t) hg hR.hh (fun _=>⟨fun _=>⟨rfl,rfl⟩,fun h=>absurd hR.base (Nat.not_le_of_lt h)⟩) hR.pos (fun e he=>hR.nc e (hm e he))
  (by rw [hlen,hR.size,←eY];exact fL _ (by omega)) (fun e he=>hR.pure e (hm e he)) (fun e he=>hR.one e (hm e he)) (by omega) (by have:=hR.max;omega) (fun j e m c hj hq=>by
   rw [mn] at hj
   split at hj
   ·rw [nS] at hj
    have:=hR.cell _ e m c hj hq
    rw [eY] at this
    exact this.zU hI (fun _ _=>rfl) (j0 (hR.pure e (bu hj)) c (bu hq))
   ·cases hj)
 grind
theorem fv.Ty{P:Program}{W:Nat→Prop}{L:eI}{wp:Prop}{t:TypeId}{es:List AV}{g cap:Nat}{cs:Array Value}{I:Nat→Prop}(hR:fv P W w σ L wp t es g cap cs)(hI:∀ b,σ.I b→I b)(hg:I g) :
  VR w I σ.κ (.l t es) (.slice (some ⟨g,0,none⟩) es.length cap):=by
 have:=hR.cz hI hg (lo:=0) (len:=es.length) (by omega)
 simpa using this
theorem aw.freeze{L:eI}{t:TypeId}{es:List AV}{v:Value}(h:aw C st a w σ)(ho:OwnAt C.P C.W w σ L True t es v)(hi:Idle C st (some L)) :
  ∃ σ',cX C w σ w σ'∧aw C st a w σ'∧VR w σ'.I σ'.κ (.l t es) v∧σ'.κ=σ.κ:=by
 rcases ho with ⟨rfl,rfl⟩ | ⟨g,cap,cs,rfl,hR⟩
 ·exact ⟨σ,.refl _ _ _,h,.lnil _ _ _,rfl⟩
 ·exact ⟨_,.fg (hR.wr trivial),h.PN hR.ow hi,hR.Ty (I:=(σ.fg g).I) (fun _ h=>.inl h) (.inr rfl),rfl⟩
theorem aw.B9{st':St}(h:aw C st a w σ)(aO:∀ d,az st'.fr d= .u∨az st'.fr d=az st.fr d)(bF:∀ k cs,st'.box C.E.dp k=some cs→st.box C.E.dp k=some cs)
  (bP:∀ k cs,k.dp≠C.E.dp→st'.hp k=some cs→st.hp k=some cs):aw C st' a w σ:=by
 have h1:aw C {st with hp:=st'.hp} a w σ→aw C st' a w σ:=fun h1=>h1.forget aO ((by grind [St.box])) rfl
 refine h1 ⟨h.size,h.defers,fun d=>(h.fr d).FU fun pl _ ⟨r,hr⟩=>?_,fun k cs hk=>?_,fun k cs hk hc=>h.hpd k cs hk (bP k cs hk hc),h.own,h.cz,h.new,h.lay⟩
 ·refine ⟨?_,rfl⟩
  rw [hr]
  cases pl with
  | s d'=>exact hr.symm
  | c k off=>
   grind [St.rowAt,St.box]
 ·by_cases hd:k.dp=C.E.dp
  ·exact h.bx k cs (by grind [St.box])
  ·simp only [St.box,ab hd] at hk
   exact h.bx k cs (by grind [St.box])
theorem Hl(fr:List (Nat×AV))(ks:List Nat)(d:Nat):az (eD fr ks) d= .u∨az (eD fr ks) d=az fr d:=by
 induction ks with
 | nil=>exact .inl rfl
 | cons k ks ih=>
  grind [eD,az]
theorem dG{bx:List (Nat×List AV)}{ks:List Nat}{d:Nat}{cs:List AV}(h:aZ (dF bx ks) d=some cs):aZ bx d=some cs:=by
 induction ks with
 | nil=>simp [dF,aZ] at h
 | cons k ks ih=>
  grind [dF,aZ]
theorem aw.bB(h:aw C st a w σ)(kf kb:List Nat):aw C (st.bB kf kb) a w σ:=
 h.B9 (Hl st.fr kf) (fun k cs hk=>by
  by_cases hd:k.dp=C.E.dp
  ·grind [St.box,St.bB,dG]
  grind [St.box,St.bB]) (fun _ _ _ h=>h)
theorem aw.cS{d:Nat}{x:AV}(h:aw C st a w σ)(hx:SR C w σ st a d x (a.tmps.getD d undef))(hb:∀ t es,x= .o t es→∀ d',(az st.fr d').fG (.s d)=false)(hd:d<C.nt):aw C (st.cS d x) a w σ:=by
 have:=h.put hd hx hb
 have e:a.put (some d) (a.tmps.getD d undef)=a:=by
  have cD:d<a.tmps.size:=h.size▸hd
  simp only [Act.put]
  have:a.tmps.setIfInBounds d (a.tmps.getD d undef)=a.tmps:=by
   apply Array.ext_getElem?
   simp_all [Dn]
  rw [this]
 rwa [e] at this
theorem Oz{d:Nat}{x:AV}{v:Value}(hd:C.nt≤d)(h:aw C st a w σ)(hx:az st.fr d=x)(hv:a.tmps.getD d undef=v):v=undef:=by
 rw [←hv]
 have:¬d<a.tmps.size:=by rw [h.size];omega
 simp [this]
theorem VO{d:Nat}{t:TypeId}{es:List AV}(h:aw C st a w σ)(hx:az st.fr d= .o t es):d<C.nt:=by
 rcases nQ d C.nt with hd | hd
 ·exact hd
 ·have:=h.fr d
  rw [hx,Oz hd h rfl rfl] at this
  rcases this with ⟨_,h2⟩ | ⟨_,_,_,h2,_⟩<;>cases h2
theorem LL{d:Nat}{x:AV}{v:Value}(h:aw C st a w σ)(hv:a.tmps.getD d undef=v)(F:v≠undef):d<C.nt:=by
 rcases nQ d C.nt with hd | hd
 ·exact hd
 ·exact absurd (by rw [←hv];exact Oz (x:=az st.fr d) hd h rfl rfl) F
theorem LM{k:Key}{off:Nat}{c:AV}{v:Value}(hc:c.pure=true)(h:CR C w σ k off c v):VR w σ.I σ.κ c v:=by
 cases c<;>first | exact h | cases hc
theorem aw.yv{k:Key}{cs:List AV}{off:Nat}{x:AV}(h:aw C st a w σ)(hb:st.box C.E.dp k=some cs)(aK:∀ t es,cs[off]? ≠some (.o t es))(hx:x.one=true)
  (bT:k.dp≠C.E.dp→x.deep k.dp=true) (bc:∀ d,(az st.fr d).fG (.c k off)=false)
  (hv:∀ vs T,w.heap[σ.κ k]? =some (.cells vs T (0,0))→CR C w σ k off x (vs.getD off undef))
  (bX:∀ t kk u,x= .bp t kk u→∀ vs T,w.heap[σ.κ k]? =some (.cells vs T (0,0))→t=T∧vs.size=cs.length:=by intro _ _ _ e;cases e):aw C (st.aW C.E.dp k (cs.set off x)) a w σ:=by
 have ae:=fun k'=>jj (cs':=cs.set off x) hb k'
 obtain ⟨vs,T,hB⟩:=h.bx k cs hb
 refine ⟨h.size,h.defers,fun d=>?_,fun k' cs' hk=>?_,fun k' cs' hk S=>?_,h.own,h.cz,h.new,h.lay⟩
 ·rw [oU]
  refine (h.fr d).FU fun pl U ⟨r,hr⟩=>⟨?_,rfl⟩
  rw [hr]
  cases pl with
  | s d'=>grind [rl]
  | c k' off'=>
   simp only [St.rowAt,ae] at hr ⊢
   by_cases hk:k'=k
   ·subst hk
    by_cases ho:off=off'
    ·subst ho
     rw [bc d] at U;cases U
    ·simp only [aA,qD,ab ho] at hr
     simp only [hb];exact hr.symm
   ·simp only [ab hk] at hr
    exact hr.symm
 ·rw [ae] at hk
  by_cases aa:k'=k
  ·subst aa
   simp only [aA] at hk
   obtain rfl:=ah hk
   refine ⟨vs,T,hB.hh,by simpa using hB.size,hB.ow,hB.wr,fun c hm=>?_,fun i c hi=>?_,fun t kk u ht=>(ka ht).elim (fun hm=>by simpa using hB.ty t kk u hm) (fun e=>by simpa using bX t kk u e.symm vs T hB.hh),hB.kb⟩
   ·rcases ka hm with hm | rfl
    ·exact hB.one c hm
    ·exact .inl hx
   ·rw [qD] at hi
    split at hi
    ·rename_i e
     split at hi
     ·obtain rfl:=ah hi
      subst e
      exact hv vs T hB.hh
     ·cases hi
    ·exact hB.cell i c hi
  ·simp only [ab aa] at hk
   exact h.bx k' cs' hk
 ·by_cases G:k.dp=C.E.dp
  ·simp only [St.aW,G,aA] at S
   exact h.hpd k' cs' hk S
  ·simp only [St.aW,ab G,aq] at S
   split at S
   ·rename_i aa
    subst aa
    obtain rfl:=ah S
    have hold:=h.hpd k' cs hk (by grind [St.box])
    grind
   ·exact h.hpd k' cs' hk S
theorem set_set(cs:List AV)(off:Nat)(x y:AV):(cs.set off x).set off y=cs.set off y:=by
 simp_all
theorem JZ(bx:List (Nat×List AV))(d:Nat)(x y:List AV):mS (mS bx d x) d y=mS bx d y:=by
 induction bx with
 | nil=>rfl
 | cons z bx ih=>
  grind [mS]
theorem KF(dp:Nat)(st:St)(k:Key)(x y:List AV):(st.aW dp k x).aW dp k y=st.aW dp k y:=by
 unfold St.aW
 split
 ·simp only [JZ]
 ·congr 1
  grind [aq]
theorem A5{k:Key}{off:Nat}(h:k.dp=C.E.dp):(Pl.c k off).iI C.E=true:=by simp [Pl.iI,h]
def eI.dpt:eI→Nat
 | .box k=>k.dp
 | .rowS dp _=>dp
 | .rowC k _=>k.dp
 | .grp dp _=>dp
 | .mark dp=>dp
theorem aw.PO{d:Nat}{cs:List AV}{vs:Array Value}{T:TypeId}{g:Nat}{ow':Nat→Option eI}(h:aw C st a w σ)(aU:∀ b l,σ.ow b=some l→l.dpt≤C.E.dp→ow' b=some l)(bn:∀ b l,ow' b=some l→b<w.heap.size)(bo:∀ b,σ.I b→ow' b=none)
  (hh:w.heap[g]? =some (.cells vs T (0,0))) (cA:(1000000≤d→T=(d - 1000000) / 1000)∧cj.n0≤g) (H:cs.length≤vs.size) (hg:ow' g=some (.box ⟨C.E.dp,d⟩)) (hW:C.W g) (h1:∀ c∈cs,c.one=true∨c= .u)
  (B:∀ (off:Nat)(c:AV),cs[off]? =some c→match c with
   | .o t es=>OwnAt C.P C.W w ⟨σ.κ,ow',σ.I⟩ (.rowC ⟨C.E.dp,d⟩ off) True t es (vs.getD off undef)
   | c=>c.pure=true∧VR w σ.I σ.κ c (vs.getD off undef))
  (aO:∀ d',(az st.fr d').cU ⟨C.E.dp,d⟩=true) (bF:∀ d' cs',aZ st.bx d'=some cs'→∀ c∈cs',c.cU ⟨C.E.dp,d⟩=true) :
  aw C {st with bx:=(d,cs)::st.bx} a w ⟨fun k=>if k=⟨C.E.dp,d⟩ then g else σ.κ k,ow',σ.I⟩:=by
 have bP:=ES h d
 have a8:∀ k,k≠⟨C.E.dp,d⟩→(if k=⟨C.E.dp,d⟩ then g else σ.κ k)=σ.κ k:=fun k hk=>ab hk
 have cy:∀ (x:AV),x.cU ⟨C.E.dp,d⟩=true→∀ k,x.cU k=false→k≠⟨C.E.dp,d⟩:=by
  grind
 have J:∀ pl r,({st with bx:=(d,cs)::st.bx} : St).rowAt C.E.dp pl=some r→(∀ off,pl≠.c ⟨C.E.dp,d⟩ off)→st.rowAt C.E.dp pl=some r:=by
  intro pl r hr F
  cases pl with
  | s d'=>exact hr
  | c k off=>
   simp only [St.rowAt,St.box] at hr ⊢
   by_cases hk:k.dp=C.E.dp
   ·have G:d≠k.d:=fun e=>F off (by cases k;grind)
    grind [aZ]
   grind
 have cc:Marks C a.defers w ⟨fun k=>if k=⟨C.E.dp,d⟩ then g else σ.κ k,ow',σ.I⟩:=by
  obtain ⟨Ds,h0,h1,h2⟩:=h.defers
  exact ⟨Ds,h0,h1,fun D hD=>⟨aU D _ (h2 D hD).1 (aY _),(h2 D hD).2⟩⟩
 refine ⟨h.size,cc,fun d'=>?_,fun k cs' hk=>?_,h.hpd,bn,fun b hb=>⟨(h.cz b hb).1,bo b hb⟩,h.new,h.lay⟩
 ·have hx:=h.fr d'
  have hn:=aO d'
  have bf:∀ pl,(∀ off,pl≠.c ⟨C.E.dp,d⟩ off)→gm w ⟨fun k=>if k=⟨C.E.dp,d⟩ then g else σ.κ k,ow',σ.I⟩ a pl=gm w σ a pl:=by
   intro pl F
   cases pl with
   | s d''=>rfl
   | c k off=>
    grind [gm]
  generalize az st.fr d'=x at hx hn ⊢
  show SR _ _ _ _ _ _ x _
  cases x with
  | o t es=>exact OwnAt.bB (C:=C) hx (fun g hg=>⟨rfl,aU _ _ hg (aY _)⟩) (fun _ h=>h) (fun _ _=>rfl)
  | r pl=>
   have F:∀ off,pl≠.c ⟨C.E.dp,d⟩ off:=by grind [AV.cU]
   intro b7
   obtain ⟨r,hr⟩:=je.1 b7
   rw [bf pl F]
   exact hx (by grind)
  | v pl lo len=>
   have F:∀ off,pl≠.c ⟨C.E.dp,d⟩ off:=by grind [AV.cU]
   intro t es ht a6
   rw [bf pl F]
   exact hx t es (J pl _ ht F) a6
  | q pl i sz off=>
   have F:∀ off,pl≠.c ⟨C.E.dp,d⟩ off:=by grind [AV.cU]
   intro t es ht a6
   rw [bf pl F]
   exact hx t es (J pl _ ht F) a6
  | w g t x=>exact qg.bB hx (fun b hb=>⟨rfl,aU _ _ hb (aY _)⟩) fun _ h=>h
  | ag cs' rs=>exact wT.to hx (fun c hc v hv=>hv.mono (fun _ h=>h) (fun _ _=>rfl) (by grind [jZ,AV.cU])) (fun _ _ hr=>⟨hr,rfl⟩)
  | _=>exact VR.mono hx (fun _ h=>h) (fun _ _=>rfl) (by grind)
 ·by_cases hK:k=⟨C.E.dp,d⟩
  ·subst hK
   simp only [St.box,aA,aZ] at hk
   obtain rfl:=ah hk
   refine ⟨vs,T,by grind,H,by grind,by grind,h1,fun off c hc=>?_,fun t _ _ ht=>(by obtain ⟨m,hm⟩:=ey.1 ht;cases (B m _ hm).1),by grind⟩
   have hv:=B off c hc
   by_cases ho:∃ t es,c= .o t es
   ·obtain ⟨t,es,rfl⟩:=ho
    rcases hv with hv | ⟨g',cap,cs',hv,hr⟩
    ·exact .inl hv
    ·exact .inr ⟨g',cap,cs',hv,⟨hr.ow,fun _=>hr.wr trivial,hr.hh,hr.pos,hr.nc,hr.ecap,hr.max,hr.size,hr.pure,hr.one,fun j e m c he hc=>(hr.cell j e m c he hc).zU (fun _ h=>h) (fun _ _=>rfl) (j0 (hr.pure e (bu he)) c (bu hc)),hr.base⟩⟩
   ·split at hv
    ·grind
    ·exact RC (hv.2.zU (fun _ h=>h) (fun _ _=>rfl) hv.1)
  ·have bi:st.box C.E.dp k=some cs':=by
    simp only [St.box] at hk ⊢
    by_cases G:k.dp=C.E.dp
    ·have F:d≠k.d:=fun e=>hK (by cases k;grind)
     grind [aZ]
    grind
   obtain ⟨vs',T',hB⟩:=h.bx k cs' bi
   have a7:k.dp≤C.E.dp:=by
    by_cases G:k.dp=C.E.dp
    ·omega
    ·simp only [St.box,ab G] at bi
     exact aR (h.hpd k cs' G bi).1
   have cd:∀ c∈cs',c.cU ⟨C.E.dp,d⟩=true:=by
    grind [St.box]
   refine ⟨vs',T',by simp only [ab hK];exact hB.hh,hB.size,by simp only [ab hK];exact aU _ _ hB.ow a7,fun hw=>by simp only [ab hK];exact hB.wr hw,hB.one,fun off c hc=>?_,hB.ty,by simp only [ab hK];exact hB.kb⟩
   exact CR.bB (C:=C) (hB.cell off c hc) (fun g hg=>⟨rfl,aU _ _ hg a7⟩) (fun _ h=>h) (fun _ _=>rfl) ((by grind)) fun b g hg=>⟨rfl,aU _ _ hg (aY _)⟩
theorem flat_get(sz:Nat):∀ {es:List AV}{i:Nat}{c:AV},(∀ e∈es,e.nc=sz)→(es.flatMap AV.cl)[i]? =some c→∃ (j m:Nat)(e:AV),es[j]? =some e∧e.cl[m]? =some c∧i=j*sz+m
 | [],i,c,_,h=>by simp at h
 | x::es,i,c,hn,h=>by
  have hx:x.cl.length=sz:=hn x (by simp)
  rw [Dw] at h
  rcases nQ i sz with hi | hi
  ·rw [nW (by omega)] at h
   exact ⟨0,i,x,rfl,h,by omega⟩
  ·rw [wo (by omega)] at h
   obtain ⟨j,m,e,h1,h2,h3⟩:=flat_get sz (fun e he=>hn e (by simp [he])) h
   exact ⟨j+1,m,e,by simpa using h1,h2,by grind⟩
theorem LN(sz:Nat):∀ {es:List AV},(∀ e∈es,e.nc=sz)→(es.flatMap AV.cl).length=es.length*sz
 | [],_=>by simp
 | x::es,hn=>by
  have hx:x.cl.length=sz:=hn x (by simp)
  rw [Dw,nU,LN sz (fun e he=>hn e (by simp [he])),hx,eM,eY]
  omega
theorem Ca(sz:Nat):∀ (n:Nat)(cs:List AV),(chunks sz n cs).length=n
 | 0,_=>rfl
 | n+1,cs=>by simp [chunks,Ca sz n]
theorem lN(sz:Nat)(H:0<sz):∀ {n:Nat}{cs:List AV}{j:Nat}{e:AV},(∀ c∈cs,c.one=true)→n*sz≤cs.length→(chunks sz n cs)[j]? =some e→e.cl=(cs.drop (j*sz)).take sz∧(j+1)*sz≤cs.length∧(AV.bJ cs=true→e.pure=true)
 | 0,cs,j,e,_,_,h=>by simp [chunks] at h
 | n+1,cs,0,e,h1,hl,h=>by
  simp only [chunks,List.getElem?_cons_zero,mm] at h
  have bh:sz≤cs.length:=by grind
  refine ⟨?_,by omega,fun hp=>?_⟩
  ·rw [Nat.zero_mul,List.drop_zero,←h]
   split
   ·rename_i e1
    subst e1
    cases cs with
    | nil=>simp at bh
    | cons c cs=>
     have hc:=h1 c (by simp)
     cases c<;>first | rfl | (simp [AV.one] at hc)
   ·rfl
  ·rw [←h]
   split
   ·rename_i e1
    subst e1
    cases cs with
    | nil=>simp at bh
    | cons c cs=>grind [fp]
   ·exact jY (by grind [fp])
 | n+1,cs,j+1,e,h1,hl,h=>by
  simp only [chunks,List.getElem?_cons_succ] at h
  have bh:n*sz≤(cs.drop sz).length:=by grind
  obtain ⟨h2,h3,h4⟩:=lN sz H ((by grind)) bh h
  grind [List.drop_drop,jY,fp]
theorem aw.sg{k:Key}{off nd sz:Nat}{cs es:List AV}{t:TypeId}(h:aw C st a w σ)(G:k.dp=C.E.dp)(hb:aZ st.bx k.d=some cs)(hz:cs[off]? =some (.o t es))(F:es≠[])
  (al:∀ e∈es,e.nc=sz) (aK:EL C.E.dp (st.aW C.E.dp k (cs.set off .u)) t nd=true) :
  ∃ σ',cX C w σ w σ'∧aw C ((({(st.aW C.E.dp k (cs.set off .u)) with bx:=(nd,es.flatMap AV.cl)::(st.aW C.E.dp k (cs.set off .u)).bx} : St).bC (.c k off)).aW C.E.dp k ((cs.set off .u).set off (.sp ⟨C.E.dp,nd⟩ 0 es.length sz))) a w σ':=by
 have ak:st.box C.E.dp k=some cs:=by simp [St.box,G,hb]
 obtain ⟨vs,T,hB⟩:=h.bx k cs ak
 have ho:OwnAt C.P C.W w σ (.rowC k off) ((Pl.c k off).iI C.E=true) t es (vs.getD off undef):=hB.cell _ _ hz
 rcases ho with ⟨rfl,_⟩ | ⟨g,cap,cs',hv,hR⟩
 ·grind
 obtain ⟨h1,hi⟩:=h.A4 (pl:=.c k off) (st':=st.aW C.E.dp k (cs.set off .u)) (by simp [St.putAt,ak])
 have h2:=h1.relabel (M:=.box ⟨C.E.dp,nd⟩) hR.ow hi
 simp only [EL,aL,eg] at aK
 have H:sz=C.P.cellsOf t:=by
  cases es with
  | nil=>grind
  | cons e es=>exact (al e (by simp)).symm.trans (hR.nc e (by simp))
 have bK:C.W g:=hR.wr (A5 G)
 have h3:=h2.PO (d:=nd) (cs:=es.flatMap AV.cl) (vs:=cs') (T:=t) (g:=g) (ow':=fun b=>if b=g then some (.box ⟨C.E.dp,nd⟩) else σ.ow b) (fun b l hb _=>hb) (fun b l hb=>h2.own b l hb) (fun b hb=>(h2.cz b hb).2)
  hR.hh ⟨fun _=>aK.1.1.2.symm,hR.base⟩ (by rw [LN sz al,hR.size,H];exact fL _ hR.ecap) (by simp) bK (fun c hc=>by
   obtain ⟨e,he,cq⟩:=List.mem_flatMap.1 hc
   exact .inl (hR.one e he c cq)) (fun i c hc=>by
   obtain ⟨j,m,e,he,hm,rfl⟩:=flat_get sz al hc
   have hp:=j0 (hR.pure e (bu he)) c (bu hm)
   have B:=hR.cell j e m c he hm
   rw [←H] at B
   cases c with
   | o t' bV=>cases hp
   | _=>exact ⟨hp,B⟩)
  (lu rfl _ aK.1.2) (fun d' cs2 be c hc=>jZ (lx _ aK.2 d' cs2 be) c hc)
 have bO:nd≠k.d:=by
  intro e
  have h4:aZ (st.aW C.E.dp k (cs.set off .u)).bx nd=none:=by simp_all
  have h5:=jj (cs':=cs.set off .u) ak k
  rw [af rfl] at h5
  simp only [St.box,G,aA] at h5
  rw [e] at h4
  rw [h5] at h4;cases h4
 have aa:k≠⟨C.E.dp,nd⟩:=fun e=>bO (by rw [e])
 have bG:(({(st.aW C.E.dp k (cs.set off .u)) with bx:=(nd,es.flatMap AV.cl)::(st.aW C.E.dp k (cs.set off .u)).bx} : St).bC (.c k off)).box C.E.dp k=some (cs.set off .u):=by
  rw [DO]
  have h5:=jj (cs':=cs.set off .u) ak k
  rw [af rfl] at h5
  simp only [St.box,G,aA,aZ,ab bO] at h5 ⊢
  exact h5
 have h5:=(h3.bC (.c k off)).yv (x:=.sp ⟨C.E.dp,nd⟩ 0 es.length sz) (off:=off) bG ((by grind)) rfl (fun F=>absurd G F) (fun d'=>kD _ _ _) (fun vs' T' hh=>by
  simp only [ab aa] at hh
  have hh:w.heap[σ.κ k]? =some (.cells vs' T' (0,0)):=hh
  rw [hB.hh] at hh
  simp only [mm,Obj.cells.injEq] at hh
  rw [←hh.1,hv]
  have:=VR.sp (w:=w) (I:=σ.I) (κ:=fun k=>if k=⟨C.E.dp,nd⟩ then g else σ.κ k) ⟨C.E.dp,nd⟩ 0 es.length sz cap hR.ecap hR.max
  simp only [aA] at this
  exact this)
 refine ⟨⟨fun k=>if k=⟨C.E.dp,nd⟩ then g else σ.κ k,fun b=>if b=g then some (eI.box ⟨C.E.dp,nd⟩) else σ.ow b,σ.I⟩,⟨aY _,fun _ _ _=>rfl,fun _ h=>h,fun _ _=>rfl,fun _ h=>.inl h,fun k' bi=>?_,fun b _ hW=>?_,rfl,rfl⟩,h5⟩
 ·grind
 grind
theorem A6{bx:List (Nat×List AV)}{d e:Nat}(h:e≠d):aZ (bx.filter fun y=>y.1 !=d) e=aZ bx e:=by
 induction bx with
 | nil=>rfl
 | cons z bx ih=>
  grind [aZ]
theorem A7{bx:List (Nat×List AV)}{d:Nat} : aZ (bx.filter fun y=>y.1 !=d) d=none:=by
 induction bx with
 | nil=>rfl
 | cons z bx ih=>
  grind [aZ]
theorem aw.afo{k k2:Key}{off n sz:Nat}{cs cs2:List AV}(h:aw C st a w σ)(G:k.dp=C.E.dp)(hb:aZ st.bx k.d=some cs)(hz:cs[off]? =some (.sp k2 0 n sz))(aD:k2.dp=C.E.dp)(F:k2≠k)
  (be:aZ st.bx k2.d=some cs2) (hp:AV.bJ cs2=true) (H:0<sz) (hle:n*sz≤cs2.length) :
  ∃ σ',cX C w σ w σ'∧aw C ((({st with bx:=st.bx.filter fun y=>y.1 !=k2.d} : St).bC (.c k off)).aW C.E.dp k (cs.set off (.l (uV k2.d) (chunks sz n cs2)))) a w σ':=by
 have ak:st.box C.E.dp k=some cs:=by simp [St.box,G,hb]
 have bH:st.box C.E.dp k2=some cs2:=by simp [St.box,aD,be]
 obtain ⟨vs,T,hB⟩:=h.bx k cs ak
 obtain ⟨vs2,T2,aG⟩:=h.bx k2 cs2 bH
 have aX:k.d≠k2.d:=fun e=>F (by cases k;cases k2;grind)
 have U:=fp hp
 have Q:∀ c∈cs2,c.one=true:=fun c hc=>(aG.one c hc).resolve_right fun e=>by have:=U c hc;rw [e] at this;cases this
 have h1:aw C {st with bx:=st.bx.filter fun y=>y.1 !=k2.d} a w σ:=by
  refine h.B9 (fun _=>.inr rfl) (fun k' cs' hk=>?_) (fun _ _ _ h=>h)
  by_cases hd:k'.dp=C.E.dp
  ·simp only [St.box,hd,aA] at hk ⊢
   by_cases he:k'.d=k2.d
   ·grind [A7]
   simp_all [A6]
  grind [St.box]
 have a9:({st with bx:=st.bx.filter fun y=>y.1 !=k2.d} : St).box C.E.dp k2=none:=by
  grind [St.box,A7]
 have hi:Idle C {st with bx:=st.bx.filter fun y=>y.1 !=k2.d} (some (.box k2)):=
  ⟨fun _ _ _ _=>by simp,by grind,fun _ _ _ _ _ _ _=>by simp,fun _=>by simp,by simp⟩
 have h2:=h1.PN aG.ow hi
 have hW:C.W (σ.κ k2):=aG.wr (A5 aD)
 have bG:(({st with bx:=st.bx.filter fun y=>y.1 !=k2.d} : St).bC (.c k off)).box C.E.dp k=some cs:=by
  rw [DO]
  simp_all [St.box,A6]
 refine ⟨_,.fg hW,(h2.bC (.c k off)).yv (x:=.l (uV k2.d) (chunks sz n cs2)) (off:=off) bG ((by grind)) rfl (fun F=>absurd G F) (fun d'=>kD _ _ _) (fun vs' T' hh=>?_)⟩
 have br:w.heap[σ.κ k]? =some (.cells vs' T' (0,0)):=hh
 rw [hB.hh] at br
 simp only [mm,Obj.cells.injEq] at br
 rw [←br.1]
 have B:VR w σ.I σ.κ (.sp k2 0 n sz) (vs.getD off undef):=hB.cell off _ hz
 generalize vs.getD off undef=v at B
 cases B with
 | sp _ _ _ _ cap aQ aP=>
  show VR w _ _ _ _
  have hlen:=Ca sz n cs2
  have hT:uV k2.d≠0→(cj.n0≤σ.κ k2→T2=uV k2.d∧((0,0):Nat×Nat)=(0,0))∧(σ.κ k2<cj.n0→cj.tg (uV k2.d)=true):=by
   intro h
   unfold uV at h ⊢
   split at h
   ·rename_i hd
    rw [af hd]
    exact ⟨fun _=>⟨aG.kb.1 hd,rfl⟩,fun ar=>absurd aG.kb.2 (by omega)⟩
   grind
  have:=VR.l (w:=w) (I:=(σ.fg (σ.κ k2)).I) (κ:=σ.κ) (uV k2.d) (chunks sz n cs2) (σ.κ k2) 0 cap vs2 T2 (0,0) sz (.inr rfl) aG.hh hT H (fun e he=>?_) ?_ (fun e he=>?_) (fun e he c hc=>?_) (by omega) aP (fun j e m c he hc=>?_)
  ·rw [hlen] at this;exact this
  ·obtain ⟨j,hj⟩:=ey.1 he
   obtain ⟨h3,h4,_⟩:=lN sz H Q hle hj
   grind [AV.nc]
  ·rw [hlen];have:=aG.size;omega
  ·obtain ⟨j,hj⟩:=ey.1 he
   exact (lN sz H Q hle hj).2.2 hp
  ·obtain ⟨j,hj⟩:=ey.1 he
   obtain ⟨h3,_,_⟩:=lN sz H Q hle hj
   grind
  ·obtain ⟨h3,_,_⟩:=lN sz H Q hle he
   rw [h3,mn] at hc
   split at hc
   ·rw [nS] at hc
    have bb:=bu hc
    rw [gO]
    exact (LM (U c bb) (aG.cell _ c hc)).zU (fun _ h=>.inl h) (fun _ _=>rfl) (U c bb)
   ·cases hc
theorem Tz{x:AV}{k:Key}{off:Nat}(h:x.cU k=true):x.fG (.c k off)=false:=by
 cases x with
 | r pl=>grind [AV.fG,AV.cU]
 | v pl lo len=>grind [AV.fG,AV.cU]
 | q pl i sz o=>grind [AV.fG,AV.cU]
 | _=>rfl
theorem aw.zN{dd:Nat} : ∀ (rs:List (Nat×Nat)){st st':St}{σ:Sp},aw C st a w σ→A.zN dd st rs=some st'→(∀ d off,(az st.fr d).fG (.c ⟨C.E.dp,dd⟩ off)=false)→
  (∀ vs T,w.heap[σ.κ ⟨C.E.dp,dd⟩]? =some (.cells vs T (0,0))→∀ q∈rs,(st.rowAt C.E.dp (.s q.2)).isSome=true→vs.getD q.1 undef=a.tmps.getD q.2 undef)→
  ∃ σ',cX C w σ w σ'∧aw C st' a w σ'∧σ'.κ=σ.κ
 | [],st,st',σ,h,he,_,_=>by
  obtain rfl:=ah he
  exact ⟨σ,.refl _ _ _,h,rfl⟩
 | (off,m)::rs,st,st',σ,h,he,bc,hv=>by
  unfold A.zN at he
  split at he
  ·rename_i t es hx
   obtain ⟨cs,hb,f⟩:=aj.1 he
   split at f
   ·rename_i ax
    have J:st.rowAt C.E.dp (.s m)=some (t,es):=by simp only [St.rowAt,hx]
    have ho:OwnAt C.P C.W w σ (.rowS C.E.dp m) True t es (a.tmps.getD m undef):=by
     have:=h.fr m
     rw [hx] at this
     exact this
    obtain ⟨h1,hi⟩:=h.A4 (pl:=.s m) (st':=st.cS m .u) rfl
    have bj:(st.cS m .u).box C.E.dp ⟨C.E.dp,dd⟩=some cs:=by simp only [St.box,aA];exact hb
    have bm:(st.cS m .u).aW C.E.dp ⟨C.E.dp,dd⟩ (cs.set off (.o t es))={(st.cS m .u) with bx:=mS st.bx dd (cs.set off (.o t es))}:=by simp [St.aW,St.cS]
    have ai:∀ d off',(az (st.cS m .u).fr d).fG (.c ⟨C.E.dp,dd⟩ off')=false:=fun d off'=>by
     simp only [St.cS,nv]
     split
     ·rfl
     grind
    have aC:∀ {σ1:Sp},cX C w σ w σ1→σ1.κ=σ.κ→aw C ((st.cS m .u).aW C.E.dp ⟨C.E.dp,dd⟩ (cs.set off (.o t es))) a w σ1→∃ σ',cX C w σ w σ'∧aw C st' a w σ'∧σ'.κ=σ.κ:=by
     intro σ1 a2 ch aQ
     rw [bm] at aQ
     obtain ⟨σ',a1,aP,aD⟩:=aw.zN rs aQ f ai ((by grind [St.rowAt,St.cS,nv]))
     exact ⟨σ',a2.trans a1,aP,aD.trans ch⟩
    rcases ho with ⟨rfl,aM⟩ | ⟨g,cap,cs',b3,hR⟩
    ·refine aC (.refl _ _ _) rfl (h1.yv bj ((by grind)) rfl (fun F=>absurd rfl F) (fun d=>ai d off) (fun vs T hh=>?_))
     rw [hv vs T hh (off,m) (by simp) (by rw [J];rfl)]
     exact .inl ⟨rfl,aM⟩
    ·have h2:=h1.relabel (M:=.rowC ⟨C.E.dp,dd⟩ off) hR.ow hi
     have bK:C.W g:=hR.wr trivial
     refine aC (σ1:=σ.add g (some (.rowC ⟨C.E.dp,dd⟩ off))) ⟨aY _,fun _ _ _=>rfl,fun _ h=>h,fun _ _=>rfl,fun _ h=>.inl h,fun _ _=>rfl,fun b _ hW=>?_,rfl,rfl⟩ rfl
      (h2.yv bj ((by grind)) rfl (fun F=>absurd rfl F) (fun d=>ai d off) (fun vs T hh=>?_))
     ·grind [Sp.add]
     ·rw [hv vs T hh (off,m) (by simp) (by rw [J];rfl)]
      exact .inr ⟨g,cap,cs',b3,by simp [Sp.add],fun _=>bK,hR.hh,hR.pos,hR.nc,hR.ecap,hR.max,hR.size,hR.pure,hR.one,hR.cell,hR.base⟩
   ·cases f
  ·cases he
theorem VP{x:bz}(h:aw C st a w σ)(hl:bN C.P (.bxg x) o.op=true)(he:execOp R Ω C.E st d (.bxg x)=some r) :
  ei C o d a w σ r.2 r.1:=by
 simp only [bN] at hl
 split at hl
 ·rename_i t y ca
  simp only [execOp] at he
  obtain ⟨dd,aX,he⟩:=aj.1 he
  split at he
  ·rename_i cs rs hx
   split at he
   ·rename_i hc
    simp only [su,aL] at hc
    obtain ⟨⟨cE,cC⟩,⟨aK,aO⟩,bF⟩:=hc
    have hd:dd<1000000:=by grind [jK]
    obtain ⟨st',bl,rfl⟩:=ew.1 he
    cases x with
    | c z=>have:=qL hl;simp only [St.ev] at hx;rw [hx] at this;cases this
    | t n=>
     simp only [St.ev] at hx
     have hs:=h.slot hl
     rw [hx] at hs
     obtain ⟨vs,hv,hlen,Q,B,J⟩:=hs
     have hn:AV.iE ⟨C.E.dp,dd⟩ cs=true:=by
      have:=lu (p:=fun y=>y.cU ⟨C.E.dp,dd⟩) rfl _ aO n
      grind [AV.cU]
     have cu:CA w σ.I σ.κ cs vs:=⟨hlen,Q,B⟩
     obtain ⟨σ',a2,ax,hk,hI⟩:=h.LF (T:=t) hd cu (fun c hm=>jZ hn c hm) ((by grind [AV.copy,A0])) (lu rfl _ aO) (fun d' cs' hb c hm=>jZ (lx _ bF d' cs' hb) c hm) (ES h dd)
     obtain ⟨σ2,a1,aP,aD⟩:=aw.zN rs ax bl (fun d' off=>Tz (lu (p:=fun y=>y.cU ⟨C.E.dp,dd⟩) rfl _ aO d')) (fun vs' T' hh q hq hr=>by
      rw [hk,heap_alloc_new] at hh
      simp only [mm,Obj.cells.injEq] at hh
      rw [←hh.1]
      exact J q hq hr)
     refine .jh (cv:=.pointer (some ⟨w.heap.size,0,none⟩)) ?_ ⟨a2.trans a1,aP,by grind [kR,Hk],fun _ _ _ _ e=>by cases e⟩
     simp_all [Go.execOp,Instr.box,newVar,newRow,Value.cells]
   ·cases he
  ·cases he
 ·cases hl
theorem aw.acI{p:wy}{st':St}(h:aw C st a w σ)(he:iM C.E st p=some st'):∃ σ',cX C w σ w σ'∧aw C st' a w σ':=by
 cases p with
 | own d t=>
  simp only [iM] at he
  split at he
  ·rename_i hx
   obtain rfl:=ah he
   have hs:=h.fr d
   rw [hx] at hs
   have hv:=VR.EP hs
   refine ⟨σ,.refl _ _ _,(h.bC (.s d)).cS (.inl ⟨rfl,hv⟩) (fun _ _ _ d'=>kD _ _ _) (LL (x:=.n) h hv (by simp [undef]))⟩
  ·obtain rfl:=ah he
   exact ⟨σ,.refl _ _ _,h⟩
  ·cases he
 | fz d=>
  simp only [iM] at he
  split at he
  ·rename_i t es hx
   obtain rfl:=ah he
   have hs:=h.fr d
   rw [hx] at hs
   obtain ⟨σ',aI,hc,hv,_⟩:=(h.LI d).freeze (L:=.rowS C.E.dp d) hs ((by grind [wE,ma]))
   have:=hc.cS (d:=d) (x:=.l t es) hv (fun _ _ e=>by cases e) (VO h hx)
   refine ⟨σ',aI,this.B9 (fun d'=>.inr ?_) (fun _ _ h=>h) (fun _ _ _ h=>h)⟩
   grind [ma]
  ·cases he
 | ownC d off t=>
  simp only [iM] at he
  split at he
  ·rename_i k o hx
   split at he
   ·rename_i hm
    obtain ⟨cs,hb,f⟩:=aj.1 he
    clear he
    split at f
    ·rename_i co
     obtain rfl:=ah f
     refine ⟨σ,.refl _ _ _,(h.bC (.c k (o+off))).yv hb ((by grind)) rfl (fun _=>rfl) (fun d'=>kD _ _ _) fun vs T hh=>?_⟩
     obtain ⟨vs',T',hB⟩:=h.bx k cs hb
     have:=hB.cell _ _ co
     rw [hB.hh] at hh
     simp only [mm,Obj.cells.injEq] at hh
     rw [←hh.1]
     exact .inl ⟨rfl,VR.EP this⟩
    ·obtain rfl:=ah f
     exact ⟨σ,.refl _ _ _,h⟩
    ·cases f
   ·cases he
  ·cases he
 | fzC d off=>
  simp only [iM] at he
  split at he
  ·rename_i k o hx
   split at he
   ·rename_i hm
    obtain ⟨cs,hb,f⟩:=aj.1 he
    clear he
    split at f
    ·rename_i t es ax
     obtain rfl:=ah f
     obtain ⟨vs,T,hB⟩:=h.bx k cs hb
     have ho:OwnAt C.P C.W w σ (.rowC k (o+off)) ((Pl.c k (o+off)).iI C.E=true) t es (vs.getD (o+off) undef):=hB.cell _ _ ax
     obtain ⟨h1,hi⟩:=h.A4 (pl:=.c k (o+off)) (st':=st.aW C.E.dp k (cs.set (o+off) .u)) (by simp [St.putAt,hb])
     obtain ⟨σ',aI,hc,hv,a8⟩:=h1.freeze (ho.DP fun _=>hm) hi
     have bE:(st.aW C.E.dp k (cs.set (o+off) .u)).box C.E.dp k=some (cs.set (o+off) .u):=by grind [jj]
     have B:(cs.set (o+off) AV.u)[o+off]? =some .u:=by
      grind
     have h2:=(hc.bC (.c k (o+off))).yv (x:=.l t es) (off:=o+off) (cs:=cs.set (o+off) .u) bE ((by grind)) rfl (fun _=>rfl) (fun d'=>kD _ _ _) (fun vs' T' hh=>by
      rw [a8,hB.hh] at hh
      simp only [mm,Obj.cells.injEq] at hh
      rw [←hh.1]
      exact hv)
     rw [set_set] at h2
     refine ⟨σ',aI,?_⟩
     have e1:((st.aW C.E.dp k (cs.set (o+off) .u)).bC (.c k (o+off))).aW C.E.dp k (cs.set (o+off) (.l t es))=
       (st.aW C.E.dp k (cs.set (o+off) (.l t es))).bC (.c k (o+off)):=by
      have:=KF C.E.dp st k (cs.set (o+off) .u) (cs.set (o+off) (.l t es))
      unfold St.bC
      unfold St.aW at this ⊢
      split
      ·rename_i hd;simp only [af hd,JZ]
      ·rename_i hd
       simp only [ab hd]
       congr 1
       funext k'
       simp only [aq]
       split<;>rfl
     rw [e1] at h2
     refine ⟨h2.size,h2.defers,fun d'=>?_,h2.bx,h2.hpd,h2.own,h2.cz,h2.new,h2.lay⟩
     have cx:(st.aW C.E.dp k (cs.set (o+off) (.l t es))).rowAt C.E.dp (.c k (o+off))=none:=by
      grind [St.rowAt,jj]
     by_cases bd:(az (st.aW C.E.dp k (cs.set (o+off) (.l t es))).fr d').fG (.c k (o+off))=true
     ·cases hy:az (st.aW C.E.dp k (cs.set (o+off) (.l t es))).fr d'<;>rw [hy] at bd<;>simp [AV.fG] at bd
      ·subst bd;intro hs;grind
      ·subst bd;intro t' bV hs;grind
      ·subst bd;intro t' bV hs;grind
     ·have:=h2.fr d'
      have e2:az ((st.aW C.E.dp k (cs.set (o+off) (.l t es))).bC (.c k (o+off))).fr d'=az (st.aW C.E.dp k (cs.set (o+off) (.l t es))).fr d':=by
       grind [St.bC,oT]
      rw [e2] at this
      exact this.FU (by grind [NI])
    ·obtain rfl:=ah f
     exact ⟨σ,.refl _ _ _,h⟩
    ·obtain rfl:=ah f
     exact ⟨σ,.refl _ _ _,h.LK hb⟩
    ·obtain rfl:=ah f
     exact ⟨σ,.refl _ _ _,h⟩
    ·cases f
   ·cases he
  ·cases he
 | fzB d agg=>
  simp only [iM] at he
  split at he
  ·rename_i k hx
   split at he
   ·rename_i G
    obtain ⟨cs,hb,f⟩:=aj.1 he
    clear he
    split at f
    ·rename_i hp
     have ak:st.box C.E.dp k=some cs:=by simp [St.box,G,hb]
     obtain ⟨vs,T,hB⟩:=h.bx k cs ak
     have hs:=h.fr d
     rw [hx] at hs
     have hv:=VR.xD hs
     have U:=fp hp
     have aK:∀ c∈cs,∀ t es,c≠.o t es:=fun c hc t es e=>by have:=U c hc;rw [e] at this;cases this
     have Q:∀ c∈cs,c.one=true:=fun c hc=>(hB.one c hc).resolve_right fun e=>by have:=U c hc;rw [e] at this;cases this
     have h1:aw C {st with bx:=st.bx.filter fun y=>y.1 !=k.d} a w σ:=by
      refine h.B9 (fun _=>.inr rfl) (fun k' cs' hk=>?_) (fun _ _ _ h=>h)
      by_cases hd:k'.dp=C.E.dp
      ·simp only [St.box,hd,aA] at hk ⊢
       have hf:∀ bx:List (Nat×List AV),aZ (bx.filter fun y=>y.1 !=k.d) k'.d=some cs'→aZ bx k'.d=some cs':=by
        intro bx
        induction bx with
        | nil=>exact id
        | cons z bx ih=>
         intro hz
         simp only [List.filter_cons] at hz
         split at hz
         ·grind [aZ]
         ·rename_i F
          simp only [aZ]
          split
          ·rename_i e
           exfalso
           have h3:z.1=k.d:=by simpa using F
           have bR:∀ bx:List (Nat×List AV),aZ (bx.filter fun y=>y.1 !=k.d) k.d=none:=by
            intro bx
            induction bx with
            | nil=>rfl
            | cons y bx ih=>
             grind [aZ]
           grind
          ·exact ih hz
       exact hf _ hk
      grind [St.box]
     have a9:({st with bx:=st.bx.filter fun y=>y.1 !=k.d} : St).box C.E.dp k=none:=by
      simp only [St.box,G,aA]
      have bR:∀ bx:List (Nat×List AV),aZ (bx.filter fun y=>y.1 !=k.d) k.d=none:=by
       intro bx
       induction bx with
       | nil=>rfl
       | cons y bx ih=>
        grind [aZ]
      exact bR _
     have hi:Idle C {st with bx:=st.bx.filter fun y=>y.1 !=k.d} (some (.box k)):=
      ⟨fun _ _ _ _=>by simp,by grind,fun _ _ _ _ _ _ _=>by simp,fun _=>by simp,by simp⟩
     have h2:=h1.PN hB.ow hi
     have hW:C.W (σ.κ k):=hB.wr (A5 G)
     have ar:d<C.nt:=LL (x:=.p k 0) h hv (by simp [undef])
     have ad:∀ x:AV,x.cl=cs→x.pure=true→(∀ t es,x≠.o t es)→aw C {(st.cS d (.e x 0)) with bx:=st.bx.filter fun y=>y.1 !=k.d} a w (σ.fg (σ.κ k)):=by
      intro x bD b1 _
      refine h2.cS (d:=d) (x:=.e x 0) ?_ (fun _ _ e=>by cases e) ar
      rw [hv]
      have:=VR.e (w:=w) (I:=(σ.fg (σ.κ k)).I) (κ:=(σ.fg (σ.κ k)).κ) x 0 (σ.κ k) 0 vs T (0,0) (.inr rfl) hB.hh b1 (by unfold AV.nc;rw [bD];have:=hB.size;omega) (by grind) (fun m c hm=>by
       rw [bD] at hm
       rw [gO]
       have bb:=bu hm
       exact (LM (U c bb) (hB.cell m c hm)).zU (fun _ h=>.inl h) (fun _ _=>rfl) (U c bb))
      exact this
     split at f
     ·obtain rfl:=ah f
      exact ⟨_,.fg hW,ad (.a cs) rfl (jY U) (fun _ _ e=>by cases e)⟩
     ·split at f
      ·rename_i c
       obtain rfl:=ah f
       have aQ:=Q c (by simp)
       have bD:c.cl=[c]:=by cases c<;>first | rfl | (simp [AV.one] at aQ)
       exact ⟨_,.fg hW,by grind⟩
      ·cases f
    ·cases f
   ·cases he
  ·cases he
 | sg d off nd sz=>
  simp only [iM] at he
  split at he
  ·rename_i k o hx
   split at he
   ·rename_i G
    obtain ⟨cs,hb,f⟩:=aj.1 he
    clear he
    have ak:st.box C.E.dp k=some cs:=by simp [St.box,G,hb]
    split at f
    ·rename_i t es ax
     split at f
     ·rename_i bv
      obtain rfl:=ah f
      obtain rfl:es=[]:=by simpa using bv
      obtain ⟨vs,T,hB⟩:=h.bx k cs ak
      have ho:OwnAt C.P C.W w σ (.rowC k (o+off)) ((Pl.c k (o+off)).iI C.E=true) t [] (vs.getD (o+off) undef):=hB.cell _ _ ax
      obtain ⟨h1,hi⟩:=h.A4 (pl:=.c k (o+off)) (st':=st.aW C.E.dp k (cs.set (o+off) .u)) (by simp [St.putAt,ak])
      have bj:((st.aW C.E.dp k (cs.set (o+off) .u)).bC (.c k (o+off))).box C.E.dp k=some (cs.set (o+off) .u):=by grind [DO,jj]
      refine ⟨σ,.refl _ _ _,(h1.bC (.c k (o+off))).yv (x:=.l t []) (off:=o+off) bj ((by grind)) rfl (fun _=>rfl) (fun d'=>kD _ _ _) (fun vs' T' hh=>?_)⟩
      rw [hB.hh] at hh
      simp only [mm,Obj.cells.injEq] at hh
      rw [←hh.1]
      rcases ho with ⟨_,hv⟩ | ⟨g,cap,cs',hv,_⟩
      ·rw [hv];exact VR.lnil _ _ _
      ·rw [hv];exact VR.lnil _ _ _
     ·rename_i bv
      split at f
      ·rename_i hc
       obtain rfl:=ah f
       simp only [aL] at hc
       exact h.sg G hb ax (fun e=>bv (by simp [e])) ((by grind)) hc.2
      ·cases f
    ·obtain rfl:=ah f
     exact ⟨σ,.refl _ _ _,h⟩
    ·cases f
   ·cases he
  ·cases he
 | unp d off=>
  simp only [iM] at he
  split at he
  ·rename_i k o hx
   split at he
   ·rename_i G
    obtain ⟨cs,hb,f⟩:=aj.1 he
    clear he
    split at f
    ·rename_i k2 n sz ax
     split at f
     ·rename_i aD
      obtain ⟨cs2,be,am⟩:=aj.1 f
      split at am
      ·rename_i hc
       obtain rfl:=ah am
       simp only [aL,eg] at hc
       exact h.afo G hb ax aD.1 aD.2 be hc.1.1 hc.1.2 hc.2
      ·cases am
     ·cases f
    ·obtain rfl:=ah f
     exact ⟨σ,.refl _ _ _,h⟩
    ·cases f
   ·cases he
  ·cases he
theorem aw.pre:∀ (ps:List wy){st st':St}{σ:Sp},aw C st a w σ→sw C.E st ps=some st'→∃ σ',cX C w σ w σ'∧aw C st' a w σ'
 | [],st,st',σ,h,he=>by obtain rfl:=ah he;exact ⟨σ,.refl _ _ _,h⟩
 | p::ps,st,st',σ,h,he=>by
  obtain ⟨st1,h1,h2⟩:=aj.1 he
  obtain ⟨σ1,a2,aQ⟩:=h.acI h1
  obtain ⟨σ2,a1,aP⟩:=aw.pre ps aQ h2
  exact ⟨σ2,a2.trans a1,aP⟩
end
end Go.Proofs.YtlmphbbhaeampaaGreat.A
