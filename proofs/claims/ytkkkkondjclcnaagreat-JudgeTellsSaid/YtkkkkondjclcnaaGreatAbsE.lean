/- append: the model does what the abstract run says. -/
import Derived.Test.YtkkkkondjclcnaaGreatAbsA
set_option linter.all false
namespace Go.Proofs.YtkkkkondjclcnaaGreat.A
open Go
variable [bM]
structure Flat(w:World)(I:Nat→Prop)(κ:Key→Nat)(sz:Nat)(es:List AV)(vs:List Value):Prop where
 len:vs.length=es.length*sz
 nc:∀ e∈es,e.nc=sz
 pure:∀ e∈es,e.pure=true
 one:∀ e∈es,∀ c∈e.cl,c.one=true
 cell:∀ (j:Nat)(e:AV)(m:Nat)(c:AV),es[j]? =some e→e.cl[m]? =some c→VR w I κ c (vs[j*sz+m]?.getD undef)
section
variable {w:World}{I:Nat→Prop}{κ:Key→Nat}{sz:Nat}
theorem CY{e:AV}{j m n:Nat}(hj:j<n)(hm:m<e.cl.length)(he:e.nc=sz):j*sz+m<n*sz:=by
 have:(j+1)*sz≤n*sz:=gK _ hj
 rw [fF] at this
 have ct:e.cl.length=sz:=he
 omega
theorem Flat.nil:Flat w I κ sz [] []:=⟨by simp,by simp,by simp,by simp,fun j e m c h=>by simp at h⟩
theorem Flat.append{es fs:List AV}{vs us:List Value}(h:Flat w I κ sz es vs)(h':Flat w I κ sz fs us):Flat w I κ sz (es++fs) (vs++us):=by
 refine ⟨by simp [h.len,h'.len,fF],fun e he=>?_,fun e he=>?_,fun e he=>?_,fun j e m c hj hm=>?_⟩
 ·rcases dk.1 he with he | he
  ·exact h.nc e he
  ·exact h'.nc e he
 ·rcases dk.1 he with he | he
  ·exact h.pure e he
  ·exact h'.pure e he
 ·rcases dk.1 he with he | he
  ·exact h.one e he
  ·exact h'.one e he
 ·have a9:=dB hm
  rw [pV] at hj
  split at hj
  ·rename_i ao
   have:=CY ao a9 (h.nc e (bg hj))
   rw [pV,ab (by rw [h.len];exact this)]
   exact h.cell j e m c hj hm
  ·rename_i bl
   have hle:es.length*sz≤j*sz:=gK _ (by omega)
   rw [pV,aa (by rw [h.len];omega),h.len]
   have:=h'.cell (j - es.length) e m c hj hm
   grind [Nat.sub_mul]
theorem Flat.afy{es:List AV}{vs:List Value}(h:Flat w I κ sz es vs):∀ u∈vs,u.oneCell'=true:=by
 intro u hu
 obtain ⟨i,hi⟩:=eZ.1 hu
 have cd:=dB hi
 rw [h.len] at cd
 have aI:0<sz:=by grind
 have hj:i / sz<es.length:=Nat.div_lt_of_lt_mul (by grind)
 have hm:i % sz<sz:=Nat.mod_lt _ aI
 have he:=bN hj
 have a9:i % sz<(es[i / sz]).cl.length:=by
  have:(es[i / sz]).cl.length=sz:=h.nc _ he
  omega
 have:=h.cell _ _ _ _ (aP hj) (aP a9)
 rw [mV,Nat.div_add_mod,hi] at this
 exact this.Lf (h.one _ he _ (bN a9))
theorem Flat.Ix{es:List AV}{cs:Array Value}{o:Nat}(ak:∀ e∈es,e.nc=sz)(hp:∀ e∈es,e.pure=true)(h1:∀ e∈es,∀ c∈e.cl,c.one=true)(hs:o+es.length*sz≤cs.size)
  (hc:∀ (j:Nat)(e:AV)(m:Nat)(c:AV),es[j]? =some e→e.cl[m]? =some c→VR w I κ c (cs.getD (o+j*sz+m) undef)):Flat w I κ sz es ((cs.toList.drop o).take (es.length*sz)):=by
 refine ⟨by simp;omega,ak,hp,h1,fun j e m c hj hm=>?_⟩
 grind [CY,Array.getD_eq_getD_getElem?]
theorem Ed{g o n:Nat}{cs:Array Value}{T:TypeId}{fz:Nat×Nat}(hh:w.heap[g]? =some (.cells cs T fz)):∀ j u,((cs.toList.drop o).take n)[j]? =some u→w.cell? ((⟨g,o,none⟩:Addr).add j)=some u:=by
 grind [add_lit,xj]
end
section
variable {C:Cx}{st:St}{a:Act}{w:World}{σ:Sp}{o:Oper}{d:Option Nat}{R:Rec}{Ω:ef}{r:AV×St}
theorem gx.flat{L:ez}{wp:Prop}{t:TypeId}{es:List AV}{g cap:Nat}{cs:Array Value}(hR:gx C.P C.W w σ L wp t es g cap cs):Flat w σ.I σ.κ (C.P.cellsOf t) es ((cs.toList.drop 0).take (es.length*C.P.cellsOf t)):=
 .Ix hR.nc hR.pure hR.one (by rw [hR.size,gh];exact gK _ hR.ecap) (fun j e m c hj hm=>by rw [gh];exact hR.cell j e m c hj hm)
theorem Flat.part{sz lo len:Nat}{es:List AV}{vs:List Value}{I:Nat→Prop}{κ:Key→Nat}(h:Flat w I κ sz es vs)(hle:lo+len≤es.length):Flat w I κ sz ((es.drop lo).take len) ((vs.drop (lo*sz)).take (len*sz)):=by
 have hm:∀ e∈(es.drop lo).take len,e∈es:=by grind
 refine ⟨?_,fun e he=>h.nc e (hm e he),fun e he=>h.pure e (hm e he),fun e he=>h.one e (hm e he),fun j e m c hj hq=>?_⟩
 ·have:(lo+len)*sz≤es.length*sz:=gK _ hle
  rw [fF] at this
  have e1:min len (es.length - lo)=len:=by omega
  simp [h.len,e1];omega
 ·rw [mS] at hj
  split at hj
  ·rename_i ao
   rw [mT] at hj
   have:=CY ao (dB hq) (h.nc e (bg hj))
   rw [mS,ab this,mT]
   have hv:=h.cell _ e m c hj hq
   grind
  ·cases hj
theorem aq.src(h:aq C st a w σ){y:Operand}{x:aY}{q:TypeId×List AV}{sz:Nat}{tx e':TypeId}(hk:C.P.underlying tx=some (.slice e'))(hl:bR y x=true)(he:st.elems C.E.dp (st.ev x)=some q)(ak:∀ e∈q.2,e.nc=sz) :
  ∃ news,Src C.P sz tx (a.eval y) q.2.length news w∧Flat w σ.I σ.κ sz q.2 news∧(q.2≠[]→∃ b n c,a.eval y= .slice (some b) n c∧n=q.2.length∧∀ j u,news[j]? =some u→w.cell? (b.add j)=some u):=by
 have bh:∀ A c,a.eval y= .slice A 0 c→q.2=[]→∃ news,Src C.P sz tx (a.eval y) q.2.length news w∧Flat w σ.I σ.κ sz q.2 news∧(q.2≠[]→∃ b n c,a.eval y= .slice (some b) n c∧n=q.2.length∧∀ j u,news[j]? =some u→w.cell? (b.add j)=some u):=by
  intro A c hv hq
  refine ⟨[],?_,by rw [hq];exact .nil,fun G=>absurd hq G⟩
  rw [hv,hq]
  cases A with
  | none=>exact Src.ofNil w hk c
  | some b=>grind [Src.ofSlice]
 have Y:∀ b n c news,a.eval y= .slice (some b) n c→n=q.2.length→Flat w σ.I σ.κ sz q.2 news→(∀ j u,news[j]? =some u→w.cell? (b.add j)=some u)→
   ∃ news,Src C.P sz tx (a.eval y) q.2.length news w∧Flat w σ.I σ.κ sz q.2 news∧(q.2≠[]→∃ b n c,a.eval y= .slice (some b) n c∧n=q.2.length∧∀ j u,news[j]? =some u→w.cell? (b.add j)=some u):=by
  intro b n c news hv hn hf B
  refine ⟨news,?_,hf,by grind⟩
  rw [hv,hn]
  exact Src.ofSlice w hk b _ c news hf.len B hf.afy
 have Z:∀ pl t es,st.rowAt C.E.dp pl=some (t,es)→a.eval y=gm w σ a pl→q=(t,es)→
   ∃ news,Src C.P sz tx (a.eval y) q.2.length news w∧Flat w σ.I σ.κ sz q.2 news∧(q.2≠[]→∃ b n c,a.eval y= .slice (some b) n c∧n=q.2.length∧∀ j u,news[j]? =some u→w.cell? (b.add j)=some u):=by
  intro pl t es hr hv hq
  subst hq
  rcases h.row hr with ⟨h1,h2⟩ | ⟨g,cap,cs,h2,hR⟩
  ·grind
  ·by_cases G:es=[]
   ·grind
   ·have H:C.P.cellsOf t=sz:=by
     cases es with
     | nil=>grind
     | cons e es=>exact (hR.nc e (by simp)).symm.trans (ak e (by simp))
    have hf:=hR.flat
    rw [H] at hf
    exact Y _ _ cap _ (hv.trans h2) rfl hf (Ed hR.hh)
 cases hx:st.ev x with
 | l t es=>
  rw [hx] at he
  obtain rfl:=af he
  obtain ⟨A,cap,hv,bI⟩:=(hx▸h.fJ hl (by rw [hx];simp) (by rw [hx];rfl)).N1
  rcases bI with bI | ⟨g,o,cs,T,fz,sz',rfl,hI,hh,ht,aI,aJ,aR,hp,h1,ch,aT,hc⟩
  ·grind
  ·by_cases G:es=[]
   ·grind
   ·have H:sz'=sz:=by
     cases es with
     | nil=>grind
     | cons e es=>simp_all
    subst H
    exact Y _ _ cap _ hv rfl (.Ix aJ hp h1 aR hc) (Ed hh)
 | n=>
  rw [hx] at he
  obtain rfl:=af he
  exact bh none 0 (hx▸h.fJ hl (by rw [hx];simp) (by rw [hx];rfl)).G6 rfl
 | o t es=>
  rw [hx] at he
  obtain rfl:=af he
  obtain ⟨n,rfl,hn⟩:=eN hx rfl hl
  exact Z (.s n) t es (by simp [St.rowAt,hn]) (by rw [CX hl];rfl) rfl
 | r pl=>
  rw [hx] at he
  obtain ⟨n,rfl,hn⟩:=eN hx rfl hl
  have hr:st.rowAt C.E.dp pl=some q:=he
  exact Z pl q.1 q.2 hr ((hn▸h.slot hl) (by rw [hr];rfl)) rfl
 | v pl lo len=>
  rw [hx] at he
  obtain ⟨n,rfl,hn⟩:=eN hx rfl hl
  simp only [St.elems] at he
  split at he
  ·rename_i t es hr
   split at he
   ·rename_i aW
    obtain rfl:=af he
    obtain ⟨A,n',cap,a8,hv⟩:=(hn▸h.slot hl) t es hr aW
    have hlen:((es.drop lo).take len).length=len:=by simp;omega
    by_cases G:len=0
    ·grind
    ·obtain ⟨g,cap',cs,b3,hR⟩:=h.D8 hr ((by grind))
     obtain ⟨rfl,rfl,rfl⟩:A=some ⟨g,0,none⟩∧n'=es.length∧cap=cap':=by
      grind
     have ce:=hR.ecap
     have H:C.P.cellsOf t=sz:=by
      cases hq:(es.drop lo).take len with
      | nil=>grind
      | cons e fs=>
       have he:e∈(es.drop lo).take len:=by rw [hq];simp
       exact (hR.nc e ((by grind))).symm.trans (ak e he)
     rw [aa (by omega),H] at hv
     simp only [fE,add_lit,gh] at hv
     refine Y ⟨g,lo*sz,none⟩ len (cap - lo) ((cs.toList.drop (lo*sz)).take (((es.drop lo).take len).length*sz)) hv hlen.symm ?_ (Ed hR.hh)
     refine .Ix ak (fun e he=>hR.pure e ((by grind))) (fun e he=>hR.one e ((by grind))) ?_ fun j e m c hj hm=>?_
     ·rw [hlen,hR.size,H,←fF]
      exact gK _ (by omega)
     ·rw [mS] at hj
      split at hj
      ·rw [mT] at hj
       have:=hR.cell _ e m c hj hm
       grind
      ·cases hj
   ·cases he
  ·cases he
 | _=>rw [hx] at he;cases he
theorem aq.ON{k:Key}{cs:List AV}{off:Nat}(h:aq C st a w σ)(hb:st.box C.E.dp k=some cs):aq C (st.aL C.E.dp k (cs.set off .u)) a w σ:=by
 have ai:=fun k'=>jT (cs':=cs.set off .u) hb k'
 have a3:∀ (i:Nat)(c:AV),(cs.set off AV.u)[i]? =some c→c=AV.u∨cs[i]? =some c:=by
  grind
 refine ⟨h.size,h.defers,fun d=>?_,fun k' cs' hk=>?_,fun k' cs' hk O=>?_,h.own,h.bP,h.new,h.lay⟩
 ·rw [pM]
  refine (h.fr d).FX fun pl _ ⟨r,hr⟩=>⟨?_,rfl⟩
  rw [hr]
  cases pl with
  | s d'=>grind [ta]
  | c k' off'=>
   simp only [St.rowAt,ai] at hr ⊢
   by_cases hk:k'=k
   ·subst hk
    simp only [az] at hr
    cases hc:(cs.set off AV.u)[off']? with
    | none=>simp [hc] at hr
    | some c=>
     rw [hc] at hr
     rcases a3 _ _ hc with rfl | h2
     ·simp at hr
     ·simp only [hb,h2];exact hr.symm
   ·simp only [aa hk] at hr
    exact hr.symm
 ·rw [ai] at hk
  by_cases ac:k'=k
  ·subst ac
   simp only [az] at hk
   obtain rfl:=af hk
   obtain ⟨vs,T,hB⟩:=h.bx k' cs hb
   refine ⟨vs,T,hB.hh,by simpa using hB.size,hB.ow,hB.wr,fun c hm=>?_,fun i c hi=>?_,fun t kk u ht=>(mU ht).elim (fun hm=>by simpa using hB.ty t kk u hm) (fun e=>by cases e),hB.kb⟩
   ·rcases mU hm with hm | rfl
    ·exact hB.one c hm
    ·exact .inr rfl
   ·rcases a3 i c hi with rfl | h2
    ·exact VR.u _
    ·exact hB.cell i c h2
  ·simp only [aa ac] at hk
   exact h.bx k' cs' hk
 ·by_cases F:k.dp=C.E.dp
  ·simp only [St.aL,F,az] at O
   exact h.hpd k' cs' hk O
  ·simp only [St.aL,aa F,ar] at O
   split at O
   ·rename_i ac
    subst ac
    obtain rfl:=af O
    have hold:=h.hpd k' cs hk (by grind [St.box])
    refine ⟨hold.1,fun c hm=>?_⟩
    rcases mU hm with hm | rfl
    ·exact hold.2 c hm
    ·rfl
   ·exact h.hpd k' cs' hk O
theorem aq.F3{pl:Pl}{st':St}(h:aq C st a w σ)(hp:st.putAt C.E.dp .u pl=some st'):aq C st' a w σ∧Idle C st' (some (pl.rC C.E.dp)):=by
 cases pl with
 | s d=>
  obtain rfl:=af hp
  exact ⟨h.OL d,yI (by grind [mw])⟩
 | c k off=>
  simp only [St.putAt] at hp
  split at hp
  ·rename_i cs hb
   obtain rfl:=af hp
   refine ⟨h.ON hb,⟨fun _ _ _ _=>by simp [Pl.rC],fun _ _ _=>by simp [Pl.rC],fun k' cs' off' t es hk hc e=>?_,fun _=>by simp [Pl.rC],by simp [Pl.rC]⟩⟩
   grind [Pl.rC,jT]
  ·cases hp
theorem aq.consume(h:aq C st a w σ){y:Operand}{x:aY}{t:TypeId}{q:List AV×St}(hl:bR y x=true)(he:consume C.E st t x=some q) :
  aq C q.2 a w σ∧((q.1=[]∧a.eval y= .slice none 0 0)∨
   ∃ L g cap cs,a.eval y= .slice (some ⟨g,0,none⟩) q.1.length cap∧gx C.P C.W w σ L True t q.1 g cap cs∧Idle C q.2 (some L)):=by
 have ae:∀ {pl es st' v},aq C st' a w σ→Idle C st' (some (Pl.rC C.E.dp pl))→OwnAt C.P C.W w σ (pl.rC C.E.dp) True t es v→a.eval y=v→q=(es,st')→
   aq C q.2 a w σ∧((q.1=[]∧a.eval y= .slice none 0 0)∨∃ L g cap cs,a.eval y= .slice (some ⟨g,0,none⟩) q.1.length cap∧gx C.P C.W w σ L True t q.1 g cap cs∧Idle C q.2 (some L)):=by
  intro pl es st' v hc hi ho hv hq
  subst hq
  refine ⟨hc,?_⟩
  rcases ho with ⟨h1,h2⟩ | ⟨g,cap,cs,h2,hR⟩
  ·grind
  grind
 unfold A.consume at he
 split at he
 ·obtain rfl:=af he
  exact ⟨h,.inl ⟨rfl,(h.wQ (x:=.c .n) hl rfl).G6⟩⟩
 ·cases he
 ·rename_i m
  have hs:=h.slot hl
  split at he
  ·rename_i hx
   obtain rfl:=af he
   rw [hx] at hs
   exact ⟨h,.inl ⟨rfl,VR.G6 hs⟩⟩
  ·rename_i t' es hx
   split at he
   ·rename_i aF
    subst aF
    rw [hx] at hs
    exact ae (pl:=.s m) (h.OL m) (yI (by grind [mw])) hs rfl (af he).symm
   ·cases he
  ·rename_i pl hx
   split at he
   ·rename_i hm
    obtain ⟨⟨t',es⟩,hr,f⟩:=ah.1 he
    clear he
    simp only at f
    split at f
    ·rename_i aF
     subst aF
     obtain ⟨st',hp,al⟩:=ah.1 f
     clear f
     obtain ⟨h1,h2⟩:=h.F3 hp
     rw [hx] at hs
     exact ae h1 h2 ((h.row hr).FY fun _=>hm) (hs (by rw [hr];rfl)) (af al).symm
    ·cases f
   ·cases he
  ·rename_i pl lo len hx
   split at he
   ·rename_i hm
    simp only [aC,eh] at hm
    obtain ⟨hm,b9⟩:=hm
    obtain ⟨⟨t',es⟩,hr,f⟩:=ah.1 he
    clear he
    simp only at f
    split at f
    ·rename_i aF
     obtain ⟨hle,aF⟩:=aF
     obtain ⟨st',hp,al⟩:=ah.1 f
     clear f
     obtain ⟨h1,h2⟩:=h.F3 hp
     rw [hx] at hs
     subst b9
     have hv:=hs t' es hr (by omega)
     subst aF
     exact ae h1 h2 (((h.row hr).short hle hv).FY fun _=>hm) rfl (af al).symm
    ·cases f
   ·cases he
  ·cases he
theorem afz{t sz by_:Nat}{x y:aY}(h:aq C st a w σ)(hl:bG C.P (.ap t sz by_ x y) o.op=true)(he:execOp R Ω C.E st d (.ap t sz by_ x y)=some r) :
  eM C o d a w σ r.2 r.1:=by
 obtain ⟨c,x',y',ty,co,ci,bK,bW,b8,b7,bX,H,cw,hz⟩:∃ c x' y' ty,o.op= .call c∧c.callee= .builtin .append∧c.args.toList=[x',y']∧c.argTypes.toList=[ty,ty]∧bR x' x=true∧bR y' y=true∧
   lD C.P ty=some t∧sized C.P t sz=true∧C.P.bytesOf t=by_∧∃ zv,zeroOf C.P t=some zv∧zv.cells.size=sz:=by
  simp only [bG] at hl;grind
 obtain ⟨zv,bO,bS⟩:=hz
 have hu:=AS bX
 obtain ⟨i,hi,cc⟩:=zT bO
 obtain ⟨_,J,aI⟩:=pL H
 have av:i.size=sz:=by grind [Program.cellsOf]
 have bj:i.bytes=by_:=by grind [Program.bytesOf]
 have bA:c.args=#[x',y']:=by grind
 have bB:c.argTypes=#[ty,ty]:=by grind
 have am:∀ cv w',(Builtin.append_ #[ty,ty] o.type #[a.eval x',a.eval y']).run C.P w= .ok cv w'→(Go.execOp a.eval o).run C.P w= .ok (.value cv) w':=by
  simp_all [Go.execOp,resolve,invoke,builtin]
 simp only [execOp] at he
 obtain ⟨dd,a4,f⟩:=ah.1 he
 clear he
 obtain ⟨ys,bT,al⟩:=ah.1 f
 clear f
 obtain ⟨q,hq,bq⟩:=ah.1 al
 clear al
 split at bq
 ·rename_i aB
  simp only [aC,eI] at aB
  obtain ⟨⟨ak,aK⟩,aT⟩:=aB
  obtain rfl:=af bq
  have aJ:∀ e∈ys.2,e.nc=sz:=by grind
  obtain ⟨news,bY,hf,b0⟩:=h.src (sz:=sz) hu b7 bT aJ
  obtain ⟨hc,br⟩:=h.consume b8 hq
  have X:Src C.P i.size ty (a.eval y') ys.2.length news w:=by grind
  have aU:(((q.1.length+ys.2.length:Nat):Int))≤9223372036854775807:=by grind [maxLen]
  have ad:∀ A cap olds,a.eval x'= .slice A q.1.length cap→q.1.length≤cap→(Builtin.firstCells i.size q.1.length (.slice A q.1.length cap)).run C.P w.drew= .ok olds.toArray w.drew→Flat w σ.I σ.κ sz q.1 olds→
    cap<q.1.length+ys.2.length→eM C o d a w σ (q.2.bc (.s dd)) (.o t (q.1++ys.2)):=by
   intro A cap olds hv hle hold aw ao
   have aM:=run_append_grow_src (P:=C.P) w ty ty o.type t i zv hu hi cc A q.1.length cap olds hold _ _ news X ao aU
    (growslice_fits ao (by rw [bj];exact aK))
   have bl:=grownCap_ge w (q.1.length+ys.2.length) cap t
   have bF:=grownCap_le_maxLen w (q.1.length+ys.2.length) cap t aT
   generalize hN:grownCap w (q.1.length+ys.2.length) cap t=N at aM bl bF
   have U:=aw.append hf
   have hlen:(olds++news).length=(q.1.length+ys.2.length)*sz:=by rw [U.len,eK]
   obtain ⟨σ',aH,O,ho,_⟩:=(hc.bc (.s dd)).drew.newRow (L:=.rowS C.E.dp dd) (t:=t) (es:=q.1++ys.2) (cap:=N) (cs:=(olds++news).toArray++Builtin.zeroCells zv.cells (N - (q.1.length+ys.2.length)))
    (by omega) (fun e he=>by rw [J];exact U.nc e he) (by simpa using bl) bF
    (by
     rw [Array.size_append,size_zeroCells,bS,J,rX,hlen,←fF]
     congr 1;omega) U.pure U.one (fun j e m c hj bC=>by
      have an:=CY (dB hj) (dB bC) (U.nc e (bg hj))
      rw [eK] at an
      rw [J,dK,yr,ab (by grind),BG]
      exact (U.cell j e m c hj bC).mono (fun _ h=>h) (fun _ _=>rfl) (fun _ _=>rfl))
   rw [eK] at ho
   exact .lr (am _ _ (by rw [hv];exact aM)) (aq.tc a4 aH.drew O ho)
  rcases br with ⟨h1,h2⟩ | ⟨L,g,cap,cs,hv,hR,hid⟩
  ·
   rw [h1] at ad aU ⊢
   by_cases K:ys.2=[]
   ·have aM:=run_append_nothing (P:=C.P) w ty ty o.type t i hu hi none 0 0 (aV _) (a.eval y') (by
     have:=X
     rw [K] at this
     have hn:news=[]:=yq (by rw [hf.len,K];simp)
     grind)
    rw [K]
    exact .lr (am _ _ (by grind)) (aq.tc a4 (.refl _ _ _) (hc.bc _) (.inl ⟨rfl,rfl⟩))
   ·have aS:0<ys.2.length:=by grind
    exact ad none 0 [] h2 (aV _) (by rw [run_firstCells_none]) .nil (by simpa using aS)
  ·have V:C.P.cellsOf t=sz:=J
   by_cases K:ys.2=[]
   ·have aM:=run_append_nothing (P:=C.P) w ty ty o.type t i hu hi (some ⟨g,0,none⟩) q.1.length cap hR.ecap (a.eval y') (by
     have:=X
     rw [K] at this
     have hn:news=[]:=yq (by rw [hf.len,K];simp)
     grind)
    rw [K,mW]
    refine .lr (am _ _ (by grind)) (aq.tc a4 (.relabel (hR.wr trivial)) ((hc.relabel hR.ow hid).bc _) (.inr ⟨g,cap,cs,rfl,hR.relabel⟩))
   ·by_cases ay:q.1.length+ys.2.length≤cap
    ·obtain ⟨b,n,c',bV,hn,B⟩:=b0 K
     have bn:q.1.length*i.size+news.length≤cs.size:=by
      rw [hf.len,hR.size,av,V,←fF];exact gK _ ay
     have aM:=run_append_room (P:=C.P) w ty o.type t i hu hi g q.1.length cap cs hR.hh b n c' news (by rw [av,hn];exact hf.len) B hf.afy (by grind) bn
     have hw:((cs.toList.take (q.1.length*i.size)++news++cs.toList.drop (q.1.length*i.size+news.length)).toArray)=tW cs (q.1.length*sz) news:=by rw [av];rfl
     rw [hw,hn] at aM
     have aA:q.1.length*sz+news.length≤cs.size:=by grind
     have ax:=jo.setRow hc hR.ow (tW cs (q.1.length*sz) news)
     have O:=hc.JK ax hid
     have aH:=cZ.setRow hc hR.ow (hR.wr trivial) (tW cs (q.1.length*sz) news)
     have aw:=hR.flat
     rw [V] at aw
     have U:=aw.append hf
     have cn:gx C.P C.W (w.setRow g (tW cs (q.1.length*sz) news)) σ L True t (q.1++ys.2) g cap (tW cs (q.1.length*sz) news):=by
      refine ⟨hR.ow,hR.wr,setRow_heap w _ _ _ _ _ hR.hh,hR.pos,fun e he=>by rw [V];exact U.nc e he,by simpa using ay,hR.max,by rw [Eb _ _ _ aA,hR.size],U.pure,U.one,fun j e m c hj hm=>?_,hR.base⟩
      have be:=U.cell j e m c hj hm
      have an:=CY (dB hj) (dB hm) (U.nc e (bg hj))
      rw [V,Ec _ _ _ aA]
      refine VR.same ax ?_
      have b4:((cs.toList.drop 0).take (q.1.length*sz)).length=q.1.length*sz:=aw.len
      rw [pV,b4] at be
      rw [eK,fF] at an
      by_cases ca:j*sz+m<q.1.length*sz
      ·grind [Array.getD_eq_getD_getElem?]
      ·rw [aa ca] at be
       rw [ab ⟨by omega,by rw [hf.len];exact an⟩]
       exact be
     refine .lr (am _ _ (by rw [hv,bV,hn];exact aM)) (aq.tc a4 (aH.trans (.relabel (hR.wr trivial))) ((O.relabel hR.ow hid).bc _) (.inr ⟨g,cap,_,by rw [eK],cn.relabel⟩))
    ·have aw:=hR.flat
     rw [V] at aw
     refine ad (some ⟨g,0,none⟩) cap _ hv hR.ecap (run_firstCells_some w.drew i.size _ _ _ _ _ (by rw [av];exact aw.len) (fun j u hj=>?_)) aw (by omega)
     have:=Ed hR.hh j u hj
     simpa using this
 ·cases bq
end
variable [bM]
section
variable {C:Cx}{st:St}{a:Act}{w:World}{σ:Sp}{o:Oper}{d:Option Nat}{R:Rec}{Ω:ef}{r:AV×St}
def Sp.eV(σ:Sp)(g:Nat):Sp:={σ with ow:=fun b=>if b=g then none else σ.ow b,I:=fun b=>σ.I b∨b=g}
theorem aq.S3{g:Nat}{L:ez}(h:aq C st a w σ)(hg:σ.ow g=some L)(hi:Idle C st (some L)):aq C st a w (σ.eV g):=by
 refine h.JK (L:=some L) ⟨fun b l hb hl=>⟨rfl,?_⟩,fun _ _=>rfl,fun _ h=>.inl h,rfl,aV _,fun b l hb=>?_,fun b hb=>?_⟩ hi
 ·grind [Sp.eV]
 ·simp only [Sp.eV] at hb
  split at hb
  ·cases hb
  ·exact h.own b l hb
 ·rcases hb with hb | rfl
  ·obtain ⟨h1,h2⟩:=h.bP b hb
   grind [Sp.eV]
  ·exact ⟨h.own _ _ hg,by simp [Sp.eV]⟩
theorem cZ.eV{g:Nat}(hW:C.W g):cZ C w σ w (σ.eV g):=
 ⟨aV _,fun _ _ _=>rfl,fun _ h=>.inl h,fun _ _=>rfl,fun b hb=>hb.elim .inl (by grind),fun _ _=>rfl,fun b _ hb=>aa (fun e=>hb (by rw [e];exact hW)),rfl,rfl⟩
theorem gx.bP{P:Program}{W:Nat→Prop}{L:ez}{wp:Prop}{t:TypeId}{es:List AV}{g cap lo len:Nat}{cs:Array Value}{I:Nat→Prop}(hR:gx P W w σ L wp t es g cap cs)(hI:∀ b,σ.I b→I b)(hg:I g)
  (hle:lo+len≤es.length):VR w I σ.κ (.l t ((es.drop lo).take len)) (.slice (some ⟨g,lo*P.cellsOf t,none⟩) len (cap - lo)):=by
 have hm:∀ e∈(es.drop lo).take len,e∈es:=by grind
 have hlen:((es.drop lo).take len).length=len:=by simp;omega
 have ce:=hR.ecap
 have:=VR.l (w:=w) (I:=I) (κ:=σ.κ) t ((es.drop lo).take len) g (lo*P.cellsOf t) (cap - lo) cs t (0,0) (P.cellsOf t) hg hR.hh (fun _=>⟨fun _=>⟨rfl,rfl⟩,fun h=>absurd hR.base (Nat.not_le_of_lt h)⟩) hR.pos (fun e he=>hR.nc e (hm e he))
  (by rw [hlen,hR.size,←fF];exact gK _ (by omega)) (fun e he=>hR.pure e (hm e he)) (fun e he=>hR.one e (hm e he)) (by omega) (by have:=hR.max;omega) (fun j e m c hj hq=>by
   rw [mS] at hj
   split at hj
   ·rw [mT] at hj
    have:=hR.cell _ e m c hj hq
    rw [fF] at this
    exact this.BX hI (fun _ _=>rfl) (kO (hR.pure e (bg hj)) c (bg hq))
   ·cases hj)
 grind
theorem gx.Wv{P:Program}{W:Nat→Prop}{L:ez}{wp:Prop}{t:TypeId}{es:List AV}{g cap:Nat}{cs:Array Value}{I:Nat→Prop}(hR:gx P W w σ L wp t es g cap cs)(hI:∀ b,σ.I b→I b)(hg:I g) :
  VR w I σ.κ (.l t es) (.slice (some ⟨g,0,none⟩) es.length cap):=by
 have:=hR.bP hI hg (lo:=0) (len:=es.length) (by omega)
 simpa using this
theorem aq.freeze{L:ez}{t:TypeId}{es:List AV}{v:Value}(h:aq C st a w σ)(ho:OwnAt C.P C.W w σ L True t es v)(hi:Idle C st (some L)) :
  ∃ σ',cZ C w σ w σ'∧aq C st a w σ'∧VR w σ'.I σ'.κ (.l t es) v∧σ'.κ=σ.κ:=by
 rcases ho with ⟨rfl,rfl⟩ | ⟨g,cap,cs,rfl,hR⟩
 ·exact ⟨σ,.refl _ _ _,h,.lnil _ _ _,rfl⟩
 ·exact ⟨_,.eV (hR.wr trivial),h.S3 hR.ow hi,hR.Wv (I:=(σ.eV g).I) (fun _ h=>.inl h) (.inr rfl),rfl⟩
theorem aq.Ee{st':St}(h:aq C st a w σ)(bm:∀ d,au st'.fr d= .u∨au st'.fr d=au st.fr d)(cj:∀ k cs,st'.box C.E.dp k=some cs→st.box C.E.dp k=some cs)
  (bE:∀ k cs,k.dp≠C.E.dp→st'.hp k=some cs→st.hp k=some cs):aq C st' a w σ:=by
 have h1:aq C {st with hp:=st'.hp} a w σ→aq C st' a w σ:=fun h1=>h1.forget bm ((by grind [St.box])) rfl
 refine h1 ⟨h.size,h.defers,fun d=>(h.fr d).FX fun pl _ ⟨r,hr⟩=>?_,fun k cs hk=>?_,fun k cs hk hc=>h.hpd k cs hk (bE k cs hk hc),h.own,h.bP,h.new,h.lay⟩
 ·refine ⟨?_,rfl⟩
  rw [hr]
  cases pl with
  | s d'=>exact hr.symm
  | c k off=>
   grind [St.rowAt,St.box]
 ·by_cases hd:k.dp=C.E.dp
  ·exact h.bx k cs (by grind [St.box])
  ·simp only [St.box,aa hd] at hk
   exact h.bx k cs (by grind [St.box])
theorem Ef(fr:List (Nat×AV))(ks:List Nat)(d:Nat):au (eE fr ks) d= .u∨au (eE fr ks) d=au fr d:=by
 induction ks with
 | nil=>exact .inl rfl
 | cons k ks ih=>
  grind [eE,au]
theorem dP{bx:List (Nat×List AV)}{ks:List Nat}{d:Nat}{cs:List AV}(h:aE (du bx ks) d=some cs):aE bx d=some cs:=by
 induction ks with
 | nil=>simp [du,aE] at h
 | cons k ks ih=>
  grind [du,aE]
theorem aq.aG(h:aq C st a w σ)(kf kb:List Nat):aq C (st.aG kf kb) a w σ:=
 h.Ee (Ef st.fr kf) (fun k cs hk=>by
  by_cases hd:k.dp=C.E.dp
  ·grind [St.box,St.aG,dP]
  grind [St.box,St.aG]) (fun _ _ _ h=>h)
theorem aq.dC{d:Nat}{x:AV}(h:aq C st a w σ)(hx:SR C w σ st a d x (a.tmps.getD d undef))(hb:∀ t es,x= .o t es→∀ d',(au st.fr d').kq (.s d)=false)(hd:d<C.nt):aq C (st.dC d x) a w σ:=by
 have:=h.put hd hx hb
 have e:a.put (some d) (a.tmps.getD d undef)=a:=by
  have cu:d<a.tmps.size:=h.size▸hd
  simp only [Act.put]
  have:a.tmps.setIfInBounds d (a.tmps.getD d undef)=a.tmps:=by
   apply Array.ext_getElem?
   simp_all [Fq]
  rw [this]
 rwa [e] at this
theorem Ry{d:Nat}{x:AV}{v:Value}(hd:C.nt≤d)(h:aq C st a w σ)(hx:au st.fr d=x)(hv:a.tmps.getD d undef=v):v=undef:=by
 rw [←hv]
 have:¬d<a.tmps.size:=by rw [h.size];omega
 simp [this]
theorem Zk{d:Nat}{t:TypeId}{es:List AV}(h:aq C st a w σ)(hx:au st.fr d= .o t es):d<C.nt:=by
 rcases oz d C.nt with hd | hd
 ·exact hd
 ·have:=h.fr d
  rw [hx,Ry hd h rfl rfl] at this
  rcases this with ⟨_,h2⟩ | ⟨_,_,_,h2,_⟩<;>cases h2
theorem OO{d:Nat}{x:AV}{v:Value}(h:aq C st a w σ)(hv:a.tmps.getD d undef=v)(G:v≠undef):d<C.nt:=by
 rcases oz d C.nt with hd | hd
 ·exact hd
 ·exact absurd (by rw [←hv];exact Ry (x:=au st.fr d) hd h rfl rfl) G
theorem OP{k:Key}{off:Nat}{c:AV}{v:Value}(hc:c.pure=true)(h:CR C w σ k off c v):VR w σ.I σ.κ c v:=by
 cases c<;>first | exact h | cases hc
theorem aq.F4{k:Key}{cs:List AV}{off:Nat}{x:AV}(h:aq C st a w σ)(hb:st.box C.E.dp k=some cs)(aO:∀ t es,cs[off]? ≠some (.o t es))(hx:x.one=true)
  (bJ:k.dp≠C.E.dp→x.deep k.dp=true) (bv:∀ d,(au st.fr d).kq (.c k off)=false)
  (hv:∀ vs T,w.heap[σ.κ k]? =some (.cells vs T (0,0))→CR C w σ k off x (vs.getD off undef))
  (bQ:∀ t kk u,x= .bp t kk u→∀ vs T,w.heap[σ.κ k]? =some (.cells vs T (0,0))→t=T∧vs.size=cs.length:=by intro _ _ _ e;cases e):aq C (st.aL C.E.dp k (cs.set off x)) a w σ:=by
 have ai:=fun k'=>jT (cs':=cs.set off x) hb k'
 obtain ⟨vs,T,hB⟩:=h.bx k cs hb
 refine ⟨h.size,h.defers,fun d=>?_,fun k' cs' hk=>?_,fun k' cs' hk O=>?_,h.own,h.bP,h.new,h.lay⟩
 ·rw [pM]
  refine (h.fr d).FX fun pl S ⟨r,hr⟩=>⟨?_,rfl⟩
  rw [hr]
  cases pl with
  | s d'=>grind [ta]
  | c k' off'=>
   simp only [St.rowAt,ai] at hr ⊢
   by_cases hk:k'=k
   ·subst hk
    by_cases ho:off=off'
    ·subst ho
     rw [bv d] at S;cases S
    ·simp only [az,uX,aa ho] at hr
     simp only [hb];exact hr.symm
   ·simp only [aa hk] at hr
    exact hr.symm
 ·rw [ai] at hk
  by_cases ac:k'=k
  ·subst ac
   simp only [az] at hk
   obtain rfl:=af hk
   refine ⟨vs,T,hB.hh,by simpa using hB.size,hB.ow,hB.wr,fun c hm=>?_,fun i c hi=>?_,fun t kk u ht=>(mU ht).elim (fun hm=>by simpa using hB.ty t kk u hm) (fun e=>by simpa using bQ t kk u e.symm vs T hB.hh),hB.kb⟩
   ·rcases mU hm with hm | rfl
    ·exact hB.one c hm
    ·exact .inl hx
   ·rw [uX] at hi
    split at hi
    ·rename_i e
     split at hi
     ·obtain rfl:=af hi
      subst e
      exact hv vs T hB.hh
     ·cases hi
    ·exact hB.cell i c hi
  ·simp only [aa ac] at hk
   exact h.bx k' cs' hk
 ·by_cases F:k.dp=C.E.dp
  ·simp only [St.aL,F,az] at O
   exact h.hpd k' cs' hk O
  ·simp only [St.aL,aa F,ar] at O
   split at O
   ·rename_i ac
    subst ac
    obtain rfl:=af O
    have hold:=h.hpd k' cs hk (by grind [St.box])
    grind
   ·exact h.hpd k' cs' hk O
theorem set_set(cs:List AV)(off:Nat)(x y:AV):(cs.set off x).set off y=cs.set off y:=by
 simp_all
theorem MA(bx:List (Nat×List AV))(d:Nat)(x y:List AV):oU (oU bx d x) d y=oU bx d y:=by
 induction bx with
 | nil=>rfl
 | cons z bx ih=>
  grind [oU]
theorem Nh(dp:Nat)(st:St)(k:Key)(x y:List AV):(st.aL dp k x).aL dp k y=st.aL dp k y:=by
 unfold St.aL
 split
 ·simp only [MA]
 ·congr 1
  grind [ar]
theorem CZ{k:Key}{off:Nat}(h:k.dp=C.E.dp):(Pl.c k off).jM C.E=true:=by simp [Pl.jM,h]
def ez.dpt:ez→Nat
 | .box k=>k.dp
 | .rowS dp _=>dp
 | .rowC k _=>k.dp
 | .grp dp _=>dp
 | .mark dp=>dp
theorem aq.YI{d:Nat}{cs:List AV}{vs:Array Value}{T:TypeId}{g:Nat}{ow':Nat→Option ez}(h:aq C st a w σ)(aN:∀ b l,σ.ow b=some l→l.dpt≤C.E.dp→ow' b=some l)(bf:∀ b l,ow' b=some l→b<w.heap.size)(bi:∀ b,σ.I b→ow' b=none)
  (hh:w.heap[g]? =some (.cells vs T (0,0))) (cr:(1000000≤d→T=(d - 1000000) / 1000)∧bM.n0≤g) (H:cs.length≤vs.size) (hg:ow' g=some (.box ⟨C.E.dp,d⟩)) (hW:C.W g) (h1:∀ c∈cs,c.one=true∨c= .u)
  (B:∀ (off:Nat)(c:AV),cs[off]? =some c→match c with
   | .o t es=>OwnAt C.P C.W w ⟨σ.κ,ow',σ.I⟩ (.rowC ⟨C.E.dp,d⟩ off) True t es (vs.getD off undef)
   | c=>c.pure=true∧VR w σ.I σ.κ c (vs.getD off undef))
  (bm:∀ d',(au st.fr d').cb ⟨C.E.dp,d⟩=true) (cj:∀ d' cs',aE st.bx d'=some cs'→∀ c∈cs',c.cb ⟨C.E.dp,d⟩=true) :
  aq C {st with bx:=(d,cs)::st.bx} a w ⟨fun k=>if k=⟨C.E.dp,d⟩ then g else σ.κ k,ow',σ.I⟩:=by
 have bE:=Lg h d
 have a0:∀ k,k≠⟨C.E.dp,d⟩→(if k=⟨C.E.dp,d⟩ then g else σ.κ k)=σ.κ k:=fun k hk=>aa hk
 have cq:∀ (x:AV),x.cb ⟨C.E.dp,d⟩=true→∀ k,x.cb k=false→k≠⟨C.E.dp,d⟩:=by
  grind
 have Z:∀ pl r,({st with bx:=(d,cs)::st.bx} : St).rowAt C.E.dp pl=some r→(∀ off,pl≠.c ⟨C.E.dp,d⟩ off)→st.rowAt C.E.dp pl=some r:=by
  intro pl r hr G
  cases pl with
  | s d'=>exact hr
  | c k off=>
   simp only [St.rowAt,St.box] at hr ⊢
   by_cases hk:k.dp=C.E.dp
   ·have F:d≠k.d:=fun e=>G off (by cases k;grind)
    grind [aE]
   grind
 have b5:Marks C a.defers w ⟨fun k=>if k=⟨C.E.dp,d⟩ then g else σ.κ k,ow',σ.I⟩:=by
  obtain ⟨Ds,h0,h1,h2⟩:=h.defers
  exact ⟨Ds,h0,h1,fun D hD=>⟨aN D _ (h2 D hD).1 (aV _),(h2 D hD).2⟩⟩
 refine ⟨h.size,b5,fun d'=>?_,fun k cs' hk=>?_,h.hpd,bf,fun b hb=>⟨(h.bP b hb).1,bi b hb⟩,h.new,h.lay⟩
 ·have hx:=h.fr d'
  have hn:=bm d'
  have a8:∀ pl,(∀ off,pl≠.c ⟨C.E.dp,d⟩ off)→gm w ⟨fun k=>if k=⟨C.E.dp,d⟩ then g else σ.κ k,ow',σ.I⟩ a pl=gm w σ a pl:=by
   intro pl G
   cases pl with
   | s d''=>rfl
   | c k off=>
    grind [gm]
  generalize au st.fr d'=x at hx hn ⊢
  show SR _ _ _ _ _ _ x _
  cases x with
  | o t es=>exact OwnAt.aG (C:=C) hx (fun g hg=>⟨rfl,aN _ _ hg (aV _)⟩) (fun _ h=>h) (fun _ _=>rfl)
  | r pl=>
   have G:∀ off,pl≠.c ⟨C.E.dp,d⟩ off:=by grind [AV.cb]
   intro bZ
   obtain ⟨r,hr⟩:=jJ.1 bZ
   rw [a8 pl G]
   exact hx (by grind)
  | v pl lo len=>
   have G:∀ off,pl≠.c ⟨C.E.dp,d⟩ off:=by grind [AV.cb]
   intro t es ht aW
   rw [a8 pl G]
   exact hx t es (Z pl _ ht G) aW
  | q pl i sz off=>
   have G:∀ off,pl≠.c ⟨C.E.dp,d⟩ off:=by grind [AV.cb]
   intro t es ht aW
   rw [a8 pl G]
   exact hx t es (Z pl _ ht G) aW
  | w g t x=>exact rD.aG hx (fun b hb=>⟨rfl,aN _ _ hb (aV _)⟩) fun _ h=>h
  | ag cs' rs=>exact zi.to hx (fun c hc v hv=>hv.mono (fun _ h=>h) (fun _ _=>rfl) (by grind [mP,AV.cb])) (fun _ _ hr=>⟨hr,rfl⟩)
  | _=>exact VR.mono hx (fun _ h=>h) (fun _ _=>rfl) (by grind)
 ·by_cases hK:k=⟨C.E.dp,d⟩
  ·subst hK
   simp only [St.box,az,aE] at hk
   obtain rfl:=af hk
   refine ⟨vs,T,by grind,H,by grind,by grind,h1,fun off c hc=>?_,fun t _ _ ht=>(by obtain ⟨m,hm⟩:=eZ.1 ht;cases (B m _ hm).1),by grind⟩
   have hv:=B off c hc
   by_cases ho:∃ t es,c= .o t es
   ·obtain ⟨t,es,rfl⟩:=ho
    rcases hv with hv | ⟨g',cap,cs',hv,hr⟩
    ·exact .inl hv
    ·exact .inr ⟨g',cap,cs',hv,⟨hr.ow,fun _=>hr.wr trivial,hr.hh,hr.pos,hr.nc,hr.ecap,hr.max,hr.size,hr.pure,hr.one,fun j e m c he hc=>(hr.cell j e m c he hc).BX (fun _ h=>h) (fun _ _=>rfl) (kO (hr.pure e (bg he)) c (bg hc)),hr.base⟩⟩
   ·split at hv
    ·grind
    ·exact UE (hv.2.BX (fun _ h=>h) (fun _ _=>rfl) hv.1)
  ·have bb:st.box C.E.dp k=some cs':=by
    simp only [St.box] at hk ⊢
    by_cases F:k.dp=C.E.dp
    ·have G:d≠k.d:=fun e=>hK (by cases k;grind)
     grind [aE]
    grind
   obtain ⟨vs',T',hB⟩:=h.bx k cs' bb
   have aZ:k.dp≤C.E.dp:=by
    by_cases F:k.dp=C.E.dp
    ·omega
    ·simp only [St.box,aa F] at bb
     exact ec (h.hpd k cs' F bb).1
   have b6:∀ c∈cs',c.cb ⟨C.E.dp,d⟩=true:=by
    grind [St.box]
   refine ⟨vs',T',by simp only [aa hK];exact hB.hh,hB.size,by simp only [aa hK];exact aN _ _ hB.ow aZ,fun hw=>by simp only [aa hK];exact hB.wr hw,hB.one,fun off c hc=>?_,hB.ty,by simp only [aa hK];exact hB.kb⟩
   exact CR.aG (C:=C) (hB.cell off c hc) (fun g hg=>⟨rfl,aN _ _ hg aZ⟩) (fun _ h=>h) (fun _ _=>rfl) ((by grind)) fun b g hg=>⟨rfl,aN _ _ hg (aV _)⟩
theorem flat_get(sz:Nat):∀ {es:List AV}{i:Nat}{c:AV},(∀ e∈es,e.nc=sz)→(es.flatMap AV.cl)[i]? =some c→∃ (j m:Nat)(e:AV),es[j]? =some e∧e.cl[m]? =some c∧i=j*sz+m
 | [],i,c,_,h=>by simp at h
 | x::es,i,c,hn,h=>by
  have hx:x.cl.length=sz:=hn x (by simp)
  rw [uY] at h
  rcases oz i sz with hi | hi
  ·rw [uZ (by omega)] at h
   exact ⟨0,i,x,rfl,h,by omega⟩
  ·rw [vz (by omega)] at h
   obtain ⟨j,m,e,h1,h2,h3⟩:=flat_get sz (fun e he=>hn e (by simp [he])) h
   exact ⟨j+1,m,e,by simpa using h1,h2,by grind⟩
theorem OQ(sz:Nat):∀ {es:List AV},(∀ e∈es,e.nc=sz)→(es.flatMap AV.cl).length=es.length*sz
 | [],_=>by simp
 | x::es,hn=>by
  have hx:x.cl.length=sz:=hn x (by simp)
  rw [uY,eK,OQ sz (fun e he=>hn e (by simp [he])),hx,cC,fF]
  omega
theorem Eg(sz:Nat):∀ (n:Nat)(cs:List AV),(chunks sz n cs).length=n
 | 0,_=>rfl
 | n+1,cs=>by simp [chunks,Eg sz n]
theorem l8(sz:Nat)(H:0<sz):∀ {n:Nat}{cs:List AV}{j:Nat}{e:AV},(∀ c∈cs,c.one=true)→n*sz≤cs.length→(chunks sz n cs)[j]? =some e→e.cl=(cs.drop (j*sz)).take sz∧(j+1)*sz≤cs.length∧(AV.aX cs=true→e.pure=true)
 | 0,cs,j,e,_,_,h=>by simp [chunks] at h
 | n+1,cs,0,e,h1,hl,h=>by
  simp only [chunks,List.getElem?_cons_zero,oy] at h
  have ba:sz≤cs.length:=by grind
  refine ⟨?_,by omega,fun hp=>?_⟩
  ·rw [BH,BD,←h]
   split
   ·rename_i e1
    subst e1
    cases cs with
    | nil=>simp at ba
    | cons c cs=>
     have hc:=h1 c (by simp)
     cases c<;>first | rfl | (simp [AV.one] at hc)
   ·rfl
  ·rw [←h]
   split
   ·rename_i e1
    subst e1
    cases cs with
    | nil=>simp at ba
    | cons c cs=>grind [fB]
   ·exact kM (by grind [fB])
 | n+1,cs,j+1,e,h1,hl,h=>by
  simp only [chunks,List.getElem?_cons_succ] at h
  have ba:n*sz≤(cs.drop sz).length:=by grind
  obtain ⟨h2,h3,h4⟩:=l8 sz H ((by grind)) ba h
  grind [List.drop_drop,kM,fB]
theorem aq.o0{k:Key}{off nd sz:Nat}{cs es:List AV}{t:TypeId}(h:aq C st a w σ)(F:k.dp=C.E.dp)(hb:aE st.bx k.d=some cs)(hz:cs[off]? =some (.o t es))(G:es≠[])
  (ak:∀ e∈es,e.nc=sz) (aO:zJ C.E.dp (st.aL C.E.dp k (cs.set off .u)) t nd=true) :
  ∃ σ',cZ C w σ w σ'∧aq C ((({(st.aL C.E.dp k (cs.set off .u)) with bx:=(nd,es.flatMap AV.cl)::(st.aL C.E.dp k (cs.set off .u)).bx} : St).bc (.c k off)).aL C.E.dp k ((cs.set off .u).set off (.sp ⟨C.E.dp,nd⟩ 0 es.length sz))) a w σ':=by
 have aj:st.box C.E.dp k=some cs:=by simp [St.box,F,hb]
 obtain ⟨vs,T,hB⟩:=h.bx k cs aj
 have ho:OwnAt C.P C.W w σ (.rowC k off) ((Pl.c k off).jM C.E=true) t es (vs.getD off undef):=hB.cell _ _ hz
 rcases ho with ⟨rfl,_⟩ | ⟨g,cap,cs',hv,hR⟩
 ·grind
 obtain ⟨h1,hi⟩:=h.F3 (pl:=.c k off) (st':=st.aL C.E.dp k (cs.set off .u)) (by simp [St.putAt,aj])
 have h2:=h1.relabel (M:=.box ⟨C.E.dp,nd⟩) hR.ow hi
 simp only [zJ,aC,eI] at aO
 have H:sz=C.P.cellsOf t:=by
  cases es with
  | nil=>grind
  | cons e es=>exact (ak e (by simp)).symm.trans (hR.nc e (by simp))
 have cm:C.W g:=hR.wr (CZ F)
 have h3:=h2.YI (d:=nd) (cs:=es.flatMap AV.cl) (vs:=cs') (T:=t) (g:=g) (ow':=fun b=>if b=g then some (.box ⟨C.E.dp,nd⟩) else σ.ow b) (fun b l hb _=>hb) (fun b l hb=>h2.own b l hb) (fun b hb=>(h2.bP b hb).2)
  hR.hh ⟨fun _=>aO.1.1.2.symm,hR.base⟩ (by rw [OQ sz ak,hR.size,H];exact gK _ hR.ecap) (by simp) cm (fun c hc=>by
   obtain ⟨e,he,cg⟩:=BI.1 hc
   exact .inl (hR.one e he c cg)) (fun i c hc=>by
   obtain ⟨j,m,e,he,hm,rfl⟩:=flat_get sz ak hc
   have hp:=kO (hR.pure e (bg he)) c (bg hm)
   have B:=hR.cell j e m c he hm
   rw [←H] at B
   cases c with
   | o t' bL=>cases hp
   | _=>exact ⟨hp,B⟩)
  (p8 rfl _ aO.1.2) (fun d' cs2 a7 c hc=>mP (p9 _ aO.2 d' cs2 a7) c hc)
 have bD:nd≠k.d:=by
  intro e
  have h4:aE (st.aL C.E.dp k (cs.set off .u)).bx nd=none:=by simp_all
  have h5:=jT (cs':=cs.set off .u) aj k
  rw [ab rfl] at h5
  simp only [St.box,F,az] at h5
  rw [e] at h4
  rw [h5] at h4;cases h4
 have ac:k≠⟨C.E.dp,nd⟩:=fun e=>bD (by rw [e])
 have bw:(({(st.aL C.E.dp k (cs.set off .u)) with bx:=(nd,es.flatMap AV.cl)::(st.aL C.E.dp k (cs.set off .u)).bx} : St).bc (.c k off)).box C.E.dp k=some (cs.set off .u):=by
  rw [FW]
  have h5:=jT (cs':=cs.set off .u) aj k
  rw [ab rfl] at h5
  simp only [St.box,F,az,aE,aa bD] at h5 ⊢
  exact h5
 have h5:=(h3.bc (.c k off)).F4 (x:=.sp ⟨C.E.dp,nd⟩ 0 es.length sz) (off:=off) bw ((by grind)) rfl (fun G=>absurd F G) (fun d'=>lq _ _ _) (fun vs' T' hh=>by
  simp only [aa ac] at hh
  have hh:w.heap[σ.κ k]? =some (.cells vs' T' (0,0)):=hh
  rw [hB.hh] at hh
  simp only [oy,Obj.cells.injEq] at hh
  rw [←hh.1,hv]
  have:=VR.sp (w:=w) (I:=σ.I) (κ:=fun k=>if k=⟨C.E.dp,nd⟩ then g else σ.κ k) ⟨C.E.dp,nd⟩ 0 es.length sz cap hR.ecap hR.max
  simp only [az] at this
  exact this)
 refine ⟨⟨fun k=>if k=⟨C.E.dp,nd⟩ then g else σ.κ k,fun b=>if b=g then some (ez.box ⟨C.E.dp,nd⟩) else σ.ow b,σ.I⟩,⟨aV _,fun _ _ _=>rfl,fun _ h=>h,fun _ _=>rfl,fun _ h=>.inl h,fun k' bb=>?_,fun b _ hW=>?_,rfl,rfl⟩,h5⟩
 ·grind
 grind
theorem Da{bx:List (Nat×List AV)}{d e:Nat}(h:e≠d):aE (bx.filter fun y=>y.1 !=d) e=aE bx e:=by
 induction bx with
 | nil=>rfl
 | cons z bx ih=>
  grind [aE]
theorem Db{bx:List (Nat×List AV)}{d:Nat} : aE (bx.filter fun y=>y.1 !=d) d=none:=by
 induction bx with
 | nil=>rfl
 | cons z bx ih=>
  grind [aE]
theorem aq.akh{k k2:Key}{off n sz:Nat}{cs cs2:List AV}(h:aq C st a w σ)(F:k.dp=C.E.dp)(hb:aE st.bx k.d=some cs)(hz:cs[off]? =some (.sp k2 0 n sz))(a1:k2.dp=C.E.dp)(G:k2≠k)
  (a7:aE st.bx k2.d=some cs2) (hp:AV.aX cs2=true) (H:0<sz) (hle:n*sz≤cs2.length) :
  ∃ σ',cZ C w σ w σ'∧aq C ((({st with bx:=st.bx.filter fun y=>y.1 !=k2.d} : St).bc (.c k off)).aL C.E.dp k (cs.set off (.l (ub k2.d) (chunks sz n cs2)))) a w σ':=by
 have aj:st.box C.E.dp k=some cs:=by simp [St.box,F,hb]
 have bz:st.box C.E.dp k2=some cs2:=by simp [St.box,a1,a7]
 obtain ⟨vs,T,hB⟩:=h.bx k cs aj
 obtain ⟨vs2,T2,aD⟩:=h.bx k2 cs2 bz
 have a4:k.d≠k2.d:=fun e=>G (by cases k;cases k2;grind)
 have S:=fB hp
 have Q:∀ c∈cs2,c.one=true:=fun c hc=>(aD.one c hc).resolve_right fun e=>by have:=S c hc;rw [e] at this;cases this
 have h1:aq C {st with bx:=st.bx.filter fun y=>y.1 !=k2.d} a w σ:=by
  refine h.Ee (fun _=>.inr rfl) (fun k' cs' hk=>?_) (fun _ _ _ h=>h)
  by_cases hd:k'.dp=C.E.dp
  ·simp only [St.box,hd,az] at hk ⊢
   by_cases he:k'.d=k2.d
   ·grind [Db]
   simp_all [Da]
  grind [St.box]
 have a2:({st with bx:=st.bx.filter fun y=>y.1 !=k2.d} : St).box C.E.dp k2=none:=by
  grind [St.box,Db]
 have hi:Idle C {st with bx:=st.bx.filter fun y=>y.1 !=k2.d} (some (.box k2)):=
  ⟨fun _ _ _ _=>by simp,by grind,fun _ _ _ _ _ _ _=>by simp,fun _=>by simp,by simp⟩
 have h2:=h1.S3 aD.ow hi
 have hW:C.W (σ.κ k2):=aD.wr (CZ a1)
 have bw:(({st with bx:=st.bx.filter fun y=>y.1 !=k2.d} : St).bc (.c k off)).box C.E.dp k=some cs:=by
  rw [FW]
  simp_all [St.box,Da]
 refine ⟨_,.eV hW,(h2.bc (.c k off)).F4 (x:=.l (ub k2.d) (chunks sz n cs2)) (off:=off) bw ((by grind)) rfl (fun G=>absurd F G) (fun d'=>lq _ _ _) (fun vs' T' hh=>?_)⟩
 have bk:w.heap[σ.κ k]? =some (.cells vs' T' (0,0)):=hh
 rw [hB.hh] at bk
 simp only [oy,Obj.cells.injEq] at bk
 rw [←bk.1]
 have B:VR w σ.I σ.κ (.sp k2 0 n sz) (vs.getD off undef):=hB.cell off _ hz
 generalize vs.getD off undef=v at B
 cases B with
 | sp _ _ _ _ cap bd bt=>
  show VR w _ _ _ _
  have hlen:=Eg sz n cs2
  have hT:ub k2.d≠0→(bM.n0≤σ.κ k2→T2=ub k2.d∧((0,0):Nat×Nat)=(0,0))∧(σ.κ k2<bM.n0→bM.tg (ub k2.d)=true):=by
   intro h
   unfold ub at h ⊢
   split at h
   ·rename_i hd
    rw [ab hd]
    exact ⟨fun _=>⟨aD.kb.1 hd,rfl⟩,fun ao=>absurd aD.kb.2 (by omega)⟩
   grind
  have:=VR.l (w:=w) (I:=(σ.eV (σ.κ k2)).I) (κ:=σ.κ) (ub k2.d) (chunks sz n cs2) (σ.κ k2) 0 cap vs2 T2 (0,0) sz (.inr rfl) aD.hh hT H (fun e he=>?_) ?_ (fun e he=>?_) (fun e he c hc=>?_) (by omega) bt (fun j e m c he hc=>?_)
  ·rw [hlen] at this;exact this
  ·obtain ⟨j,hj⟩:=eZ.1 he
   obtain ⟨h3,h4,_⟩:=l8 sz H Q hle hj
   grind [AV.nc]
  ·rw [hlen];have:=aD.size;omega
  ·obtain ⟨j,hj⟩:=eZ.1 he
   exact (l8 sz H Q hle hj).2.2 hp
  ·obtain ⟨j,hj⟩:=eZ.1 he
   obtain ⟨h3,_,_⟩:=l8 sz H Q hle hj
   grind
  ·obtain ⟨h3,_,_⟩:=l8 sz H Q hle he
   rw [h3,mS] at hc
   split at hc
   ·rw [mT] at hc
    have a5:=bg hc
    rw [gh]
    exact (OP (S c a5) (aD.cell _ c hc)).BX (fun _ h=>.inl h) (fun _ _=>rfl) (S c a5)
   ·cases hc
theorem aq.afA{p:wM}{st':St}(h:aq C st a w σ)(he:iE C.E st p=some st'):∃ σ',cZ C w σ w σ'∧aq C st' a w σ':=by
 cases p with
 | own d t=>
  simp only [iE] at he
  split at he
  ·rename_i hx
   obtain rfl:=af he
   have hs:=h.fr d
   rw [hx] at hs
   have hv:=VR.G6 hs
   refine ⟨σ,.refl _ _ _,(h.bc (.s d)).dC (.inl ⟨rfl,hv⟩) (fun _ _ _ d'=>lq _ _ _) (OO (x:=.n) h hv (by simp [undef]))⟩
  ·obtain rfl:=af he
   exact ⟨σ,.refl _ _ _,h⟩
  ·cases he
 | fz d=>
  simp only [iE] at he
  split at he
  ·rename_i t es hx
   obtain rfl:=af he
   have hs:=h.fr d
   rw [hx] at hs
   obtain ⟨σ',aH,hc,hv,_⟩:=(h.OL d).freeze (L:=.rowS C.E.dp d) hs ((by grind [yI,mw]))
   have:=hc.dC (d:=d) (x:=.l t es) hv (fun _ _ e=>by cases e) (Zk h hx)
   refine ⟨σ',aH,this.Ee (fun d'=>.inr ?_) (fun _ _ h=>h) (fun _ _ _ h=>h)⟩
   grind [mw]
  ·cases he
 | ownC d off t=>
  simp only [iE] at he
  split at he
  ·rename_i k o hx
   split at he
   ·rename_i hm
    obtain ⟨cs,hb,f⟩:=ah.1 he
    clear he
    split at f
    ·rename_i cf
     obtain rfl:=af f
     refine ⟨σ,.refl _ _ _,(h.bc (.c k (o+off))).F4 hb ((by grind)) rfl (fun _=>rfl) (fun d'=>lq _ _ _) fun vs T hh=>?_⟩
     obtain ⟨vs',T',hB⟩:=h.bx k cs hb
     have:=hB.cell _ _ cf
     rw [hB.hh] at hh
     simp only [oy,Obj.cells.injEq] at hh
     rw [←hh.1]
     exact .inl ⟨rfl,VR.G6 this⟩
    ·obtain rfl:=af f
     exact ⟨σ,.refl _ _ _,h⟩
    ·cases f
   ·cases he
  ·cases he
 | fzC d off=>
  simp only [iE] at he
  split at he
  ·rename_i k o hx
   split at he
   ·rename_i hm
    obtain ⟨cs,hb,f⟩:=ah.1 he
    clear he
    split at f
    ·rename_i t es aQ
     obtain rfl:=af f
     obtain ⟨vs,T,hB⟩:=h.bx k cs hb
     have ho:OwnAt C.P C.W w σ (.rowC k (o+off)) ((Pl.c k (o+off)).jM C.E=true) t es (vs.getD (o+off) undef):=hB.cell _ _ aQ
     obtain ⟨h1,hi⟩:=h.F3 (pl:=.c k (o+off)) (st':=st.aL C.E.dp k (cs.set (o+off) .u)) (by simp [St.putAt,hb])
     obtain ⟨σ',aH,hc,hv,a0⟩:=h1.freeze (ho.FY fun _=>hm) hi
     have bu:(st.aL C.E.dp k (cs.set (o+off) .u)).box C.E.dp k=some (cs.set (o+off) .u):=by grind [jT]
     have B:(cs.set (o+off) AV.u)[o+off]? =some .u:=by
      grind
     have h2:=(hc.bc (.c k (o+off))).F4 (x:=.l t es) (off:=o+off) (cs:=cs.set (o+off) .u) bu ((by grind)) rfl (fun _=>rfl) (fun d'=>lq _ _ _) (fun vs' T' hh=>by
      rw [a0,hB.hh] at hh
      simp only [oy,Obj.cells.injEq] at hh
      rw [←hh.1]
      exact hv)
     rw [set_set] at h2
     refine ⟨σ',aH,?_⟩
     have e1:((st.aL C.E.dp k (cs.set (o+off) .u)).bc (.c k (o+off))).aL C.E.dp k (cs.set (o+off) (.l t es))=
       (st.aL C.E.dp k (cs.set (o+off) (.l t es))).bc (.c k (o+off)):=by
      have:=Nh C.E.dp st k (cs.set (o+off) .u) (cs.set (o+off) (.l t es))
      unfold St.bc
      unfold St.aL at this ⊢
      split
      ·rename_i hd;simp only [ab hd,MA]
      ·rename_i hd
       simp only [aa hd]
       congr 1
       funext k'
       simp only [ar]
       split<;>rfl
     rw [e1] at h2
     refine ⟨h2.size,h2.defers,fun d'=>?_,h2.bx,h2.hpd,h2.own,h2.bP,h2.new,h2.lay⟩
     have cp:(st.aL C.E.dp k (cs.set (o+off) (.l t es))).rowAt C.E.dp (.c k (o+off))=none:=by
      grind [St.rowAt,jT]
     by_cases a6:(au (st.aL C.E.dp k (cs.set (o+off) (.l t es))).fr d').kq (.c k (o+off))=true
     ·cases hy:au (st.aL C.E.dp k (cs.set (o+off) (.l t es))).fr d'<;>rw [hy] at a6<;>simp [AV.kq] at a6
      ·subst a6;intro hs;grind
      ·subst a6;intro t' bL hs;grind
      ·subst a6;intro t' bL hs;grind
     ·have:=h2.fr d'
      have e2:au ((st.aL C.E.dp k (cs.set (o+off) (.l t es))).bc (.c k (o+off))).fr d'=au (st.aL C.E.dp k (cs.set (o+off) (.l t es))).fr d':=by
       grind [St.bc,pK]
      rw [e2] at this
      exact this.FX (by grind [Qz])
    ·obtain rfl:=af f
     exact ⟨σ,.refl _ _ _,h⟩
    ·obtain rfl:=af f
     exact ⟨σ,.refl _ _ _,h.ON hb⟩
    ·obtain rfl:=af f
     exact ⟨σ,.refl _ _ _,h⟩
    ·cases f
   ·cases he
  ·cases he
 | fzB d agg=>
  simp only [iE] at he
  split at he
  ·rename_i k hx
   split at he
   ·rename_i F
    obtain ⟨cs,hb,f⟩:=ah.1 he
    clear he
    split at f
    ·rename_i hp
     have aj:st.box C.E.dp k=some cs:=by simp [St.box,F,hb]
     obtain ⟨vs,T,hB⟩:=h.bx k cs aj
     have hs:=h.fr d
     rw [hx] at hs
     have hv:=VR.zS hs
     have S:=fB hp
     have aO:∀ c∈cs,∀ t es,c≠.o t es:=fun c hc t es e=>by have:=S c hc;rw [e] at this;cases this
     have Q:∀ c∈cs,c.one=true:=fun c hc=>(hB.one c hc).resolve_right fun e=>by have:=S c hc;rw [e] at this;cases this
     have h1:aq C {st with bx:=st.bx.filter fun y=>y.1 !=k.d} a w σ:=by
      refine h.Ee (fun _=>.inr rfl) (fun k' cs' hk=>?_) (fun _ _ _ h=>h)
      by_cases hd:k'.dp=C.E.dp
      ·simp only [St.box,hd,az] at hk ⊢
       have hf:∀ bx:List (Nat×List AV),aE (bx.filter fun y=>y.1 !=k.d) k'.d=some cs'→aE bx k'.d=some cs':=by
        intro bx
        induction bx with
        | nil=>exact id
        | cons z bx ih=>
         intro hz
         simp only [List.filter_cons] at hz
         split at hz
         ·grind [aE]
         ·rename_i G
          simp only [aE]
          split
          ·rename_i e
           exfalso
           have h3:z.1=k.d:=by simpa using G
           have bH:∀ bx:List (Nat×List AV),aE (bx.filter fun y=>y.1 !=k.d) k.d=none:=by
            intro bx
            induction bx with
            | nil=>rfl
            | cons y bx ih=>
             grind [aE]
           grind
          ·exact ih hz
       exact hf _ hk
      grind [St.box]
     have a2:({st with bx:=st.bx.filter fun y=>y.1 !=k.d} : St).box C.E.dp k=none:=by
      simp only [St.box,F,az]
      have bH:∀ bx:List (Nat×List AV),aE (bx.filter fun y=>y.1 !=k.d) k.d=none:=by
       intro bx
       induction bx with
       | nil=>rfl
       | cons y bx ih=>
        grind [aE]
      exact bH _
     have hi:Idle C {st with bx:=st.bx.filter fun y=>y.1 !=k.d} (some (.box k)):=
      ⟨fun _ _ _ _=>by simp,by grind,fun _ _ _ _ _ _ _=>by simp,fun _=>by simp,by simp⟩
     have h2:=h1.S3 hB.ow hi
     have hW:C.W (σ.κ k):=hB.wr (CZ F)
     have ao:d<C.nt:=OO (x:=.p k 0) h hv (by simp [undef])
     have ae:∀ x:AV,x.cl=cs→x.pure=true→(∀ t es,x≠.o t es)→aq C {(st.dC d (.e x 0)) with bx:=st.bx.filter fun y=>y.1 !=k.d} a w (σ.eV (σ.κ k)):=by
      intro x bs bU _
      refine h2.dC (d:=d) (x:=.e x 0) ?_ (fun _ _ e=>by cases e) ao
      rw [hv]
      have:=VR.e (w:=w) (I:=(σ.eV (σ.κ k)).I) (κ:=(σ.eV (σ.κ k)).κ) x 0 (σ.κ k) 0 vs T (0,0) (.inr rfl) hB.hh bU (by unfold AV.nc;rw [bs];have:=hB.size;omega) (by grind) (fun m c hm=>by
       rw [bs] at hm
       rw [gh]
       have a5:=bg hm
       exact (OP (S c a5) (hB.cell m c hm)).BX (fun _ h=>.inl h) (fun _ _=>rfl) (S c a5))
      exact this
     split at f
     ·obtain rfl:=af f
      exact ⟨_,.eV hW,ae (.a cs) rfl (kM S) (fun _ _ e=>by cases e)⟩
     ·split at f
      ·rename_i c
       obtain rfl:=af f
       have bd:=Q c (by simp)
       have bs:c.cl=[c]:=by cases c<;>first | rfl | (simp [AV.one] at bd)
       exact ⟨_,.eV hW,by grind⟩
      ·cases f
    ·cases f
   ·cases he
  ·cases he
 | o0 d off nd sz=>
  simp only [iE] at he
  split at he
  ·rename_i k o hx
   split at he
   ·rename_i F
    obtain ⟨cs,hb,f⟩:=ah.1 he
    clear he
    have aj:st.box C.E.dp k=some cs:=by simp [St.box,F,hb]
    split at f
    ·rename_i t es aQ
     split at f
     ·rename_i bo
      obtain rfl:=af f
      obtain rfl:es=[]:=by simpa using bo
      obtain ⟨vs,T,hB⟩:=h.bx k cs aj
      have ho:OwnAt C.P C.W w σ (.rowC k (o+off)) ((Pl.c k (o+off)).jM C.E=true) t [] (vs.getD (o+off) undef):=hB.cell _ _ aQ
      obtain ⟨h1,hi⟩:=h.F3 (pl:=.c k (o+off)) (st':=st.aL C.E.dp k (cs.set (o+off) .u)) (by simp [St.putAt,aj])
      have ck:((st.aL C.E.dp k (cs.set (o+off) .u)).bc (.c k (o+off))).box C.E.dp k=some (cs.set (o+off) .u):=by grind [FW,jT]
      refine ⟨σ,.refl _ _ _,(h1.bc (.c k (o+off))).F4 (x:=.l t []) (off:=o+off) ck ((by grind)) rfl (fun _=>rfl) (fun d'=>lq _ _ _) (fun vs' T' hh=>?_)⟩
      rw [hB.hh] at hh
      simp only [oy,Obj.cells.injEq] at hh
      rw [←hh.1]
      rcases ho with ⟨_,hv⟩ | ⟨g,cap,cs',hv,_⟩
      ·rw [hv];exact VR.lnil _ _ _
      ·rw [hv];exact VR.lnil _ _ _
     ·rename_i bo
      split at f
      ·rename_i hc
       obtain rfl:=af f
       simp only [aC] at hc
       exact h.o0 F hb aQ (fun e=>bo (by simp [e])) ((by grind)) hc.2
      ·cases f
    ·obtain rfl:=af f
     exact ⟨σ,.refl _ _ _,h⟩
    ·cases f
   ·cases he
  ·cases he
 | unp d off=>
  simp only [iE] at he
  split at he
  ·rename_i k o hx
   split at he
   ·rename_i F
    obtain ⟨cs,hb,f⟩:=ah.1 he
    clear he
    split at f
    ·rename_i k2 n sz aQ
     split at f
     ·rename_i a1
      obtain ⟨cs2,a7,al⟩:=ah.1 f
      split at al
      ·rename_i hc
       obtain rfl:=af al
       simp only [aC,eI] at hc
       exact h.akh F hb aQ a1.1 a1.2 a7 hc.1.1 hc.1.2 hc.2
      ·cases al
     ·cases f
    ·obtain rfl:=af f
     exact ⟨σ,.refl _ _ _,h⟩
    ·cases f
   ·cases he
  ·cases he
theorem aq.pre:∀ (ps:List wM){st st':St}{σ:Sp},aq C st a w σ→sZ C.E st ps=some st'→∃ σ',cZ C w σ w σ'∧aq C st' a w σ'
 | [],st,st',σ,h,he=>by obtain rfl:=af he;exact ⟨σ,.refl _ _ _,h⟩
 | p::ps,st,st',σ,h,he=>by
  obtain ⟨st1,h1,h2⟩:=ah.1 he
  obtain ⟨σ1,b2,bd⟩:=h.afA h1
  obtain ⟨σ2,b1,bt⟩:=aq.pre ps bd h2
  exact ⟨σ2,b2.trans b1,bt⟩
end
end Go.Proofs.YtkkkkondjclcnaaGreat.A
