/- append: the model does what the abstract run says. -/
import Derived.Test.YtlmphbbhaeampaaGreatAbsA
set_option linter.all false
namespace Go.Proofs.YtlmphbbhaeampaaGreat.A
open Go
variable [cN]
structure Flat(w:World)(I:Nat→Prop)(κ:Key→Nat)(sz:Nat)(es:List AV)(vs:List Value):Prop where
 len:vs.length=es.length*sz
 nc:∀ e∈es,e.nc=sz
 pure:∀ e∈es,e.pure=true
 one:∀ e∈es,∀ c∈e.cl,c.one=true
 cell:∀ (j:Nat)(e:AV)(m:Nat)(c:AV),es[j]? =some e→e.cl[m]? =some c→VR w I κ c (vs[j*sz+m]?.getD undef)
section
variable {w:World}{I:Nat→Prop}{κ:Key→Nat}{sz:Nat}
theorem HO{e:AV}{j m n:Nat}(hj:j<n)(hm:m<e.cl.length)(he:e.nc=sz):j*sz+m<n*sz:=by
 have:(j+1)*sz≤n*sz:=iz _ hj
 rw [fQ] at this
 have cp:e.cl.length=sz:=he
 omega
theorem Flat.nil:Flat w I κ sz [] []:=⟨by simp,by simp,by simp,by simp,fun j e m c h=>by simp at h⟩
theorem Flat.append{es fs:List AV}{vs us:List Value}(h:Flat w I κ sz es vs)(h':Flat w I κ sz fs us):Flat w I κ sz (es++fs) (vs++us):=by
 refine ⟨by simp [h.len,h'.len,fQ],fun e he=>?_,fun e he=>?_,fun e he=>?_,fun j e m c hj hm=>?_⟩
 ·rcases iA.1 he with he | he
  ·exact h.nc e he
  ·exact h'.nc e he
 ·rcases iA.1 he with he | he
  ·exact h.pure e he
  ·exact h'.pure e he
 ·rcases iA.1 he with he | he
  ·exact h.one e he
  ·exact h'.one e he
 ·have a5:=eh hm
  rw [rZ] at hj
  split at hj
  ·rename_i aK
   have:=HO aK a5 (h.nc e (cm hj))
   rw [rZ,af (by rw [h.len];exact this)]
   exact h.cell j e m c hj hm
  ·rename_i bf
   have hle:es.length*sz≤j*sz:=iz _ (by omega)
   rw [rZ,ah (by rw [h.len];omega),h.len]
   have:=h'.cell (j - es.length) e m c hj hm
   grind [Nat.sub_mul]
theorem Flat.ahn{es:List AV}{vs:List Value}(h:Flat w I κ sz es vs):∀ u∈vs,u.oneCell'=true:=by
 intro u hu
 obtain ⟨i,hi⟩:=fP.1 hu
 have b8:=eh hi
 rw [h.len] at b8
 have az:0<sz:=by grind
 have hj:i / sz<es.length:=Nat.div_lt_of_lt_mul (by grind)
 have hm:i % sz<sz:=Nat.mod_lt _ az
 have he:=cg hj
 have a5:i % sz<(es[i / sz]).cl.length:=by
  have:(es[i / sz]).cl.length=sz:=h.nc _ he
  omega
 have:=h.cell _ _ _ _ (bu hj) (bu a5)
 rw [Nat.mul_comm,Nat.div_add_mod,hi] at this
 exact this.L4 (h.one _ he _ (cg a5))
theorem Flat.I3{es:List AV}{cs:Array Value}{o:Nat}(ad:∀ e∈es,e.nc=sz)(hp:∀ e∈es,e.pure=true)(h1:∀ e∈es,∀ c∈e.cl,c.one=true)(hs:o+es.length*sz≤cs.size)
  (hc:∀ (j:Nat)(e:AV)(m:Nat)(c:AV),es[j]? =some e→e.cl[m]? =some c→VR w I κ c (cs.getD (o+j*sz+m) undef)):Flat w I κ sz es ((cs.toList.drop o).take (es.length*sz)):=by
 refine ⟨by simp;omega,ad,hp,h1,fun j e m c hj hm=>?_⟩
 grind [HO,Array.getD_eq_getD_getElem?]
theorem EB{g o n:Nat}{cs:Array Value}{T:TypeId}{fz:Nat×Nat}(hh:w.heap[g]? =some (.cells cs T fz)):∀ j u,((cs.toList.drop o).take n)[j]? =some u→w.cell? ((⟨g,o,none⟩:Addr).add j)=some u:=by
 grind [add_lit,xM]
end
section
variable {C:Cx}{st:St}{a:Act}{w:World}{σ:Sp}{o:Oper}{d:Option Nat}{R:Rec}{Ω:ej}{r:AV×St}
theorem fY.flat{L:e8}{wp:Prop}{t:TypeId}{es:List AV}{g cap:Nat}{cs:Array Value}(hR:fY C.P C.W w σ L wp t es g cap cs):Flat w σ.I σ.κ (C.P.cellsOf t) es ((cs.toList.drop 0).take (es.length*C.P.cellsOf t)):=
 .I3 hR.nc hR.pure hR.one (by rw [hR.size,jL];exact iz _ hR.ecap) (fun j e m c hj hm=>by rw [jL];exact hR.cell j e m c hj hm)
theorem aE.src(h:aE C st a w σ){y:Operand}{x:bY}{q:TypeId×List AV}{sz:Nat}{tx e':TypeId}(hk:C.P.underlying tx=some (.slice e'))(hl:cJ y x=true)(he:st.elems C.E.dp (st.ev x)=some q)(ad:∀ e∈q.2,e.nc=sz) :
  ∃ news,Src C.P sz tx (a.eval y) q.2.length news w∧Flat w σ.I σ.κ sz q.2 news∧(q.2≠[]→∃ b n c,a.eval y= .slice (some b) n c∧n=q.2.length∧∀ j u,news[j]? =some u→w.cell? (b.add j)=some u):=by
 have aC:∀ A c,a.eval y= .slice A 0 c→q.2=[]→∃ news,Src C.P sz tx (a.eval y) q.2.length news w∧Flat w σ.I σ.κ sz q.2 news∧(q.2≠[]→∃ b n c,a.eval y= .slice (some b) n c∧n=q.2.length∧∀ j u,news[j]? =some u→w.cell? (b.add j)=some u):=by
  intro A c hv hq
  refine ⟨[],?_,by rw [hq];exact .nil,fun F=>absurd hq F⟩
  rw [hv,hq]
  cases A with
  | none=>exact Src.ofNil w hk c
  | some b=>grind [Src.ofSlice]
 have X:∀ b n c news,a.eval y= .slice (some b) n c→n=q.2.length→Flat w σ.I σ.κ sz q.2 news→(∀ j u,news[j]? =some u→w.cell? (b.add j)=some u)→
   ∃ news,Src C.P sz tx (a.eval y) q.2.length news w∧Flat w σ.I σ.κ sz q.2 news∧(q.2≠[]→∃ b n c,a.eval y= .slice (some b) n c∧n=q.2.length∧∀ j u,news[j]? =some u→w.cell? (b.add j)=some u):=by
  intro b n c news hv hn hf B
  refine ⟨news,?_,hf,by grind⟩
  rw [hv,hn]
  exact Src.ofSlice w hk b _ c news hf.len B hf.ahn
 have G:∀ pl t es,st.rowAt C.E.dp pl=some (t,es)→a.eval y=ic w σ a pl→q=(t,es)→
   ∃ news,Src C.P sz tx (a.eval y) q.2.length news w∧Flat w σ.I σ.κ sz q.2 news∧(q.2≠[]→∃ b n c,a.eval y= .slice (some b) n c∧n=q.2.length∧∀ j u,news[j]? =some u→w.cell? (b.add j)=some u):=by
  intro pl t es hr hv hq
  subst hq
  rcases h.row hr with ⟨h1,h2⟩ | ⟨g,cap,cs,h2,hR⟩
  ·grind
  ·by_cases F:es=[]
   ·grind
   ·have Q:C.P.cellsOf t=sz:=by
     cases es with
     | nil=>grind
     | cons e es=>exact (hR.nc e (by simp)).symm.trans (ad e (by simp))
    have hf:=hR.flat
    rw [Q] at hf
    exact X _ _ cap _ (hv.trans h2) rfl hf (EB hR.hh)
 cases hx:st.ev x with
 | l t es=>
  rw [hx] at he
  obtain rfl:=aq he
  obtain ⟨A,cap,hv,bB⟩:=(hx▸h.fS hl (by rw [hx];simp) (by rw [hx];rfl)).OP
  rcases bB with bB | ⟨g,o,cs,T,fz,sz',rfl,hI,hh,ht,az,aD,aO,hp,h1,cc,aT,hc⟩
  ·grind
  ·by_cases F:es=[]
   ·grind
   ·have Q:sz'=sz:=by
     cases es with
     | nil=>grind
     | cons e es=>simp_all
    subst Q
    exact X _ _ cap _ hv rfl (.I3 aD hp h1 aO hc) (EB hh)
 | n=>
  rw [hx] at he
  obtain rfl:=aq he
  exact aC none 0 (hx▸h.fS hl (by rw [hx];simp) (by rw [hx];rfl)).HL rfl
 | o t es=>
  rw [hx] at he
  obtain rfl:=aq he
  obtain ⟨n,rfl,hn⟩:=eM hx rfl hl
  exact G (.s n) t es (by simp [St.rowAt,hn]) (by rw [AG hl];rfl) rfl
 | r pl=>
  rw [hx] at he
  obtain ⟨n,rfl,hn⟩:=eM hx rfl hl
  have hr:st.rowAt C.E.dp pl=some q:=he
  exact G pl q.1 q.2 hr ((hn▸h.slot hl) (by rw [hr];rfl)) rfl
 | v pl lo len=>
  rw [hx] at he
  obtain ⟨n,rfl,hn⟩:=eM hx rfl hl
  simp only [St.elems] at he
  split at he
  ·rename_i t es hr
   split at he
   ·rename_i aV
    obtain rfl:=aq he
    obtain ⟨A,n',cap,a4,hv⟩:=(hn▸h.slot hl) t es hr aV
    have hlen:((es.drop lo).take len).length=len:=by simp;omega
    by_cases F:len=0
    ·grind
    ·obtain ⟨g,cap',cs,bW,hR⟩:=h.Ew hr ((by grind))
     obtain ⟨rfl,rfl,rfl⟩:A=some ⟨g,0,none⟩∧n'=es.length∧cap=cap':=by
      grind
     have b9:=hR.ecap
     have Q:C.P.cellsOf t=sz:=by
      cases hq:(es.drop lo).take len with
      | nil=>grind
      | cons e fs=>
       have he:e∈(es.drop lo).take len:=by rw [hq];simp
       exact (hR.nc e ((by grind))).symm.trans (ad e he)
     rw [ah (by omega),Q] at hv
     simp only [kJ,add_lit,jL] at hv
     refine X ⟨g,lo*sz,none⟩ len (cap - lo) ((cs.toList.drop (lo*sz)).take (((es.drop lo).take len).length*sz)) hv hlen.symm ?_ (EB hR.hh)
     refine .I3 ad (fun e he=>hR.pure e ((by grind))) (fun e he=>hR.one e ((by grind))) ?_ fun j e m c hj hm=>?_
     ·rw [hlen,hR.size,Q,←fQ]
      exact iz _ (by omega)
     ·rw [xk] at hj
      split at hj
      ·rw [xm] at hj
       have:=hR.cell _ e m c hj hm
       grind
      ·cases hj
   ·cases he
  ·cases he
 | _=>rw [hx] at he;cases he
theorem aE.Pd{k:Key}{cs:List AV}{off:Nat}(h:aE C st a w σ)(hb:st.box C.E.dp k=some cs):aE C (st.bI C.E.dp k (cs.set off .u)) a w σ:=by
 have ab:=fun k'=>kX (cs':=cs.set off .u) hb k'
 have aZ:∀ (i:Nat)(c:AV),(cs.set off AV.u)[i]? =some c→c=AV.u∨cs[i]? =some c:=by
  grind
 refine ⟨h.size,h.defers,fun d=>?_,fun k' cs' hk=>?_,fun k' cs' hk O=>?_,h.own,h.da,h.new,h.lay⟩
 ·rw [pW]
  refine (h.fr d).I1 fun pl _ ⟨r,hr⟩=>⟨?_,rfl⟩
  rw [hr]
  cases pl with
  | s d'=>grind [s0]
  | c k' off'=>
   simp only [St.rowAt,ab] at hr ⊢
   by_cases hk:k'=k
   ·subst hk
    simp only [aH] at hr
    cases hc:(cs.set off AV.u)[off']? with
    | none=>simp [hc] at hr
    | some c=>
     rw [hc] at hr
     rcases aZ _ _ hc with rfl | h2
     ·simp at hr
     ·simp only [hb,h2];exact hr.symm
   ·simp only [ah hk] at hr
    exact hr.symm
 ·rw [ab] at hk
  by_cases Y:k'=k
  ·subst Y
   simp only [aH] at hk
   obtain rfl:=aq hk
   obtain ⟨vs,T,hB⟩:=h.bx k' cs hb
   refine ⟨vs,T,hB.hh,by simpa using hB.size,hB.ow,hB.wr,fun c hm=>?_,fun i c hi=>?_,fun t kk u ht=>(lX ht).elim (fun hm=>by simpa using hB.ty t kk u hm) (fun e=>by cases e),hB.kb⟩
   ·rcases lX hm with hm | rfl
    ·exact hB.one c hm
    ·exact .inr rfl
   ·rcases aZ i c hi with rfl | h2
    ·exact VR.u _
    ·exact hB.cell i c h2
  ·simp only [ah Y] at hk
   exact h.bx k' cs' hk
 ·by_cases H:k.dp=C.E.dp
  ·simp only [St.bI,H,aH] at O
   exact h.hpd k' cs' hk O
  ·simp only [St.bI,ah H,ar] at O
   split at O
   ·rename_i Y
    subst Y
    obtain rfl:=aq O
    have hold:=h.hpd k' cs hk (by grind [St.box])
    refine ⟨hold.1,fun c hm=>?_⟩
    rcases lX hm with hm | rfl
    ·exact hold.2 c hm
    ·rfl
   ·exact h.hpd k' cs' hk O
theorem aE.Gr{pl:Pl}{st':St}(h:aE C st a w σ)(hp:st.putAt C.E.dp .u pl=some st'):aE C st' a w σ∧Idle C st' (some (pl.rv C.E.dp)):=by
 cases pl with
 | s d=>
  obtain rfl:=aq hp
  exact ⟨h.Pb d,zh (by grind [mS])⟩
 | c k off=>
  simp only [St.putAt] at hp
  split at hp
  ·rename_i cs hb
   obtain rfl:=aq hp
   refine ⟨h.Pd hb,⟨fun _ _ _ _=>by simp [Pl.rv],fun _ _ _=>by simp [Pl.rv],fun k' cs' off' t es hk hc e=>?_,fun _=>by simp [Pl.rv],by simp [Pl.rv]⟩⟩
   grind [Pl.rv,kX]
  ·cases hp
theorem aE.consume(h:aE C st a w σ){y:Operand}{x:bY}{t:TypeId}{q:List AV×St}(hl:cJ y x=true)(he:consume C.E st t x=some q) :
  aE C q.2 a w σ∧((q.1=[]∧a.eval y= .slice none 0 0)∨
   ∃ L g cap cs,a.eval y= .slice (some ⟨g,0,none⟩) q.1.length cap∧fY C.P C.W w σ L True t q.1 g cap cs∧Idle C q.2 (some L)):=by
 have aa:∀ {pl es st' v},aE C st' a w σ→Idle C st' (some (Pl.rv C.E.dp pl))→OwnAt C.P C.W w σ (pl.rv C.E.dp) True t es v→a.eval y=v→q=(es,st')→
   aE C q.2 a w σ∧((q.1=[]∧a.eval y= .slice none 0 0)∨∃ L g cap cs,a.eval y= .slice (some ⟨g,0,none⟩) q.1.length cap∧fY C.P C.W w σ L True t q.1 g cap cs∧Idle C q.2 (some L)):=by
  intro pl es st' v hc hi ho hv hq
  subst hq
  refine ⟨hc,?_⟩
  rcases ho with ⟨h1,h2⟩ | ⟨g,cap,cs,h2,hR⟩
  ·grind
  grind
 unfold A.consume at he
 split at he
 ·obtain rfl:=aq he
  exact ⟨h,.inl ⟨rfl,(h.vA (x:=.c .n) hl rfl).HL⟩⟩
 ·cases he
 ·rename_i m
  have hs:=h.slot hl
  split at he
  ·rename_i hx
   obtain rfl:=aq he
   rw [hx] at hs
   exact ⟨h,.inl ⟨rfl,VR.HL hs⟩⟩
  ·rename_i t' es hx
   split at he
   ·rename_i ax
    subst ax
    rw [hx] at hs
    exact aa (pl:=.s m) (h.Pb m) (zh (by grind [mS])) hs rfl (aq he).symm
   ·cases he
  ·rename_i pl hx
   split at he
   ·rename_i hm
    obtain ⟨⟨t',es⟩,hr,f⟩:=au.1 he
    clear he
    simp only at f
    split at f
    ·rename_i ax
     subst ax
     obtain ⟨st',hp,aL⟩:=au.1 f
     clear f
     obtain ⟨h1,h2⟩:=h.Gr hp
     rw [hx] at hs
     exact aa h1 h2 ((h.row hr).Gl fun _=>hm) (hs (by rw [hr];rfl)) (aq aL).symm
    ·cases f
   ·cases he
  ·rename_i pl lo len hx
   split at he
   ·rename_i hm
    simp only [aY,eB] at hm
    obtain ⟨hm,b4⟩:=hm
    obtain ⟨⟨t',es⟩,hr,f⟩:=au.1 he
    clear he
    simp only at f
    split at f
    ·rename_i ax
     obtain ⟨hle,ax⟩:=ax
     obtain ⟨st',hp,aL⟩:=au.1 f
     clear f
     obtain ⟨h1,h2⟩:=h.Gr hp
     rw [hx] at hs
     subst b4
     have hv:=hs t' es hr (by omega)
     subst ax
     exact aa h1 h2 (((h.row hr).short hle hv).Gl fun _=>hm) rfl (aq aL).symm
    ·cases f
   ·cases he
  ·cases he
theorem aho{t sz by_:Nat}{x y:bY}(h:aE C st a w σ)(hl:cE C.P (.ap t sz by_ x y) o.op=true)(he:execOp R Ω C.E st d (.ap t sz by_ x y)=some r) :
  e9 C o d a w σ r.2 r.1:=by
 obtain ⟨c,x',y',ty,bX,cd,bF,bR,b3,b2,bS,Q,cw,hz⟩:∃ c x' y' ty,o.op= .call c∧c.callee= .builtin .append∧c.args.toList=[x',y']∧c.argTypes.toList=[ty,ty]∧cJ x' x=true∧cJ y' y=true∧
   lF C.P ty=some t∧sized C.P t sz=true∧C.P.bytesOf t=by_∧∃ zv,zeroOf C.P t=some zv∧zv.cells.size=sz:=by
  simp only [cE] at hl;grind
 obtain ⟨zv,bK,bM⟩:=hz
 have hu:=A0 bS
 obtain ⟨i,hi,b7⟩:=Al bK
 obtain ⟨_,J,az⟩:=og Q
 have aj:i.size=sz:=by grind [Program.cellsOf]
 have be:i.bytes=by_:=by grind [Program.bytesOf]
 have bn:c.args=#[x',y']:=by grind
 have bq:c.argTypes=#[ty,ty]:=by grind
 have ae:∀ cv w',(Builtin.append_ #[ty,ty] o.type #[a.eval x',a.eval y']).run C.P w= .ok cv w'→(Go.execOp a.eval o).run C.P w= .ok (.value cv) w':=by
  simp_all [Go.execOp,resolve,invoke,builtin]
 simp only [execOp] at he
 obtain ⟨dd,a0,f⟩:=au.1 he
 clear he
 obtain ⟨ys,bN,aL⟩:=au.1 f
 clear f
 obtain ⟨q,hq,bh⟩:=au.1 aL
 clear aL
 split at bh
 ·rename_i aw
  simp only [aY,eS] at aw
  obtain ⟨⟨ad,aG⟩,aT⟩:=aw
  obtain rfl:=aq bh
  have aD:∀ e∈ys.2,e.nc=sz:=by grind
  obtain ⟨news,bT,hf,bV⟩:=h.src (sz:=sz) hu b2 bN aD
  obtain ⟨hc,bi⟩:=h.consume b3 hq
  have V:Src C.P i.size ty (a.eval y') ys.2.length news w:=by grind
  have aU:(((q.1.length+ys.2.length:Nat):Int))≤9223372036854775807:=by grind [maxLen]
  have Z:∀ A cap olds,a.eval x'= .slice A q.1.length cap→q.1.length≤cap→(Builtin.firstCells i.size q.1.length (.slice A q.1.length cap)).run C.P w.drew= .ok olds.toArray w.drew→Flat w σ.I σ.κ sz q.1 olds→
    cap<q.1.length+ys.2.length→e9 C o d a w σ (q.2.ct (.s dd)) (.o t (q.1++ys.2)):=by
   intro A cap olds hv hle hold ak aK
   have aI:=run_append_grow_src (P:=C.P) w ty ty o.type t i zv hu hi b7 A q.1.length cap olds hold _ _ news V aK aU
    (growslice_fits aK (by rw [be];exact aG))
   have bf:=grownCap_ge w (q.1.length+ys.2.length) cap t
   have bz:=grownCap_le_maxLen w (q.1.length+ys.2.length) cap t aT
   generalize hN:grownCap w (q.1.length+ys.2.length) cap t=N at aI bf bz
   have S:=ak.append hf
   have hlen:(olds++news).length=(q.1.length+ys.2.length)*sz:=by rw [S.len,oQ]
   obtain ⟨σ',ay,O,ho,_⟩:=(hc.ct (.s dd)).drew.newRow (L:=.rowS C.E.dp dd) (t:=t) (es:=q.1++ys.2) (cap:=N) (cs:=(olds++news).toArray++Builtin.zeroCells zv.cells (N - (q.1.length+ys.2.length)))
    (by omega) (fun e he=>by rw [J];exact S.nc e he) (by simpa using bf) bz
    (by
     rw [Array.size_append,size_zeroCells,bM,J,xw,hlen,←fQ]
     congr 1;omega) S.pure S.one (fun j e m c hj br=>by
      have ai:=HO (eh hj) (eh br) (S.nc e (cm hj))
      rw [oQ] at ai
      rw [J,iy,B6,af (by grind),B3]
      exact (S.cell j e m c hj br).mono (fun _ h=>h) (fun _ _=>rfl) (fun _ _=>rfl))
   rw [oQ] at ho
   exact .lg (ae _ _ (by rw [hv];exact aI)) (aE.vB a0 ay.drew O ho)
  rcases bi with ⟨h1,h2⟩ | ⟨L,g,cap,cs,hv,hR,hid⟩
  ·
   rw [h1] at Z aU ⊢
   by_cases K:ys.2=[]
   ·have aI:=run_append_nothing (P:=C.P) w ty ty o.type t i hu hi none 0 0 (bG _) (a.eval y') (by
     have:=V
     rw [K] at this
     have hn:news=[]:=B5 (by rw [hf.len,K];simp)
     grind)
    rw [K]
    exact .lg (ae _ _ (by grind)) (aE.vB a0 (.refl _ _ _) (hc.ct _) (.inl ⟨rfl,rfl⟩))
   ·have aS:0<ys.2.length:=by grind
    exact Z none 0 [] h2 (bG _) (by rw [run_firstCells_none]) .nil (by simpa using aS)
  ·have U:C.P.cellsOf t=sz:=J
   by_cases K:ys.2=[]
   ·have aI:=run_append_nothing (P:=C.P) w ty ty o.type t i hu hi (some ⟨g,0,none⟩) q.1.length cap hR.ecap (a.eval y') (by
     have:=V
     rw [K] at this
     have hn:news=[]:=B5 (by rw [hf.len,K];simp)
     grind)
    rw [K,Gb]
    refine .lg (ae _ _ (by grind)) (aE.vB a0 (.relabel (hR.wr trivial)) ((hc.relabel hR.ow hid).ct _) (.inr ⟨g,cap,cs,rfl,hR.relabel⟩))
   ·by_cases am:q.1.length+ys.2.length≤cap
    ·obtain ⟨b,n,c',bP,hn,B⟩:=bV K
     have bg:q.1.length*i.size+news.length≤cs.size:=by
      rw [hf.len,hR.size,aj,U,←fQ];exact iz _ am
     have aI:=run_append_room (P:=C.P) w ty o.type t i hu hi g q.1.length cap cs hR.hh b n c' news (by rw [aj,hn];exact hf.len) B hf.ahn (by grind) bg
     have hw:((cs.toList.take (q.1.length*i.size)++news++cs.toList.drop (q.1.length*i.size+news.length)).toArray)=tW cs (q.1.length*sz) news:=by rw [aj];rfl
     rw [hw,hn] at aI
     have av:q.1.length*sz+news.length≤cs.size:=by grind
     have al:=jB.setRow hc hR.ow (tW cs (q.1.length*sz) news)
     have O:=hc.ON al hid
     have ay:=dJ.setRow hc hR.ow (hR.wr trivial) (tW cs (q.1.length*sz) news)
     have ak:=hR.flat
     rw [U] at ak
     have S:=ak.append hf
     have ci:fY C.P C.W (w.setRow g (tW cs (q.1.length*sz) news)) σ L True t (q.1++ys.2) g cap (tW cs (q.1.length*sz) news):=by
      refine ⟨hR.ow,hR.wr,setRow_heap w _ _ _ _ _ hR.hh,hR.pos,fun e he=>by rw [U];exact S.nc e he,by simpa using am,hR.max,by rw [Ez _ _ _ av,hR.size],S.pure,S.one,fun j e m c hj hm=>?_,hR.base⟩
      have a9:=S.cell j e m c hj hm
      have ai:=HO (eh hj) (eh hm) (S.nc e (cm hj))
      rw [U,EA _ _ _ av]
      refine VR.same al ?_
      have bZ:((cs.toList.drop 0).take (q.1.length*sz)).length=q.1.length*sz:=ak.len
      rw [rZ,bZ] at a9
      rw [oQ,fQ] at ai
      by_cases b6:j*sz+m<q.1.length*sz
      ·grind [Array.getD_eq_getD_getElem?]
      ·rw [ah b6] at a9
       rw [af ⟨by omega,by rw [hf.len];exact ai⟩]
       exact a9
     refine .lg (ae _ _ (by rw [hv,bP,hn];exact aI)) (aE.vB a0 (ay.trans (.relabel (hR.wr trivial))) ((O.relabel hR.ow hid).ct _) (.inr ⟨g,cap,_,by rw [oQ],ci.relabel⟩))
    ·have ak:=hR.flat
     rw [U] at ak
     refine Z (some ⟨g,0,none⟩) cap _ hv hR.ecap (run_firstCells_some w.drew i.size _ _ _ _ _ (by rw [aj];exact ak.len) (fun j u hj=>?_)) ak (by omega)
     have:=EB hR.hh j u hj
     simpa using this
 ·cases bh
end
variable [cN]
section
variable {C:Cx}{st:St}{a:Act}{w:World}{σ:Sp}{o:Oper}{d:Option Nat}{R:Rec}{Ω:ej}{r:AV×St}
def Sp.fM(σ:Sp)(g:Nat):Sp:={σ with ow:=fun b=>if b=g then none else σ.ow b,I:=fun b=>σ.I b∨b=g}
theorem aE.Y3{g:Nat}{L:e8}(h:aE C st a w σ)(hg:σ.ow g=some L)(hi:Idle C st (some L)):aE C st a w (σ.fM g):=by
 refine h.ON (L:=some L) ⟨fun b l hb hl=>⟨rfl,?_⟩,fun _ _=>rfl,fun _ h=>.inl h,rfl,bG _,fun b l hb=>?_,fun b hb=>?_⟩ hi
 ·grind [Sp.fM]
 ·simp only [Sp.fM] at hb
  split at hb
  ·cases hb
  ·exact h.own b l hb
 ·rcases hb with hb | rfl
  ·obtain ⟨h1,h2⟩:=h.da b hb
   grind [Sp.fM]
  ·exact ⟨h.own _ _ hg,by simp [Sp.fM]⟩
theorem dJ.fM{g:Nat}(hW:C.W g):dJ C w σ w (σ.fM g):=
 ⟨bG _,fun _ _ _=>rfl,fun _ h=>.inl h,fun _ _=>rfl,fun b hb=>hb.elim .inl (by grind),fun _ _=>rfl,fun b _ hb=>ah (fun e=>hb (by rw [e];exact hW)),rfl,rfl⟩
theorem fY.da{P:Program}{W:Nat→Prop}{L:e8}{wp:Prop}{t:TypeId}{es:List AV}{g cap lo len:Nat}{cs:Array Value}{I:Nat→Prop}(hR:fY P W w σ L wp t es g cap cs)(hI:∀ b,σ.I b→I b)(hg:I g)
  (hle:lo+len≤es.length):VR w I σ.κ (.l t ((es.drop lo).take len)) (.slice (some ⟨g,lo*P.cellsOf t,none⟩) len (cap - lo)):=by
 have hm:∀ e∈(es.drop lo).take len,e∈es:=by grind
 have hlen:((es.drop lo).take len).length=len:=by simp;omega
 have b9:=hR.ecap
 have:=VR.l (w:=w) (I:=I) (κ:=σ.κ) t ((es.drop lo).take len) g (lo*P.cellsOf t) (cap - lo) cs t (0,0) (P.cellsOf t) hg hR.hh (fun _=>⟨fun _=>⟨rfl,rfl⟩,fun h=>absurd hR.base (Nat.not_le_of_lt h)⟩) hR.pos (fun e he=>hR.nc e (hm e he))
  (by rw [hlen,hR.size,←fQ];exact iz _ (by omega)) (fun e he=>hR.pure e (hm e he)) (fun e he=>hR.one e (hm e he)) (by omega) (by have:=hR.max;omega) (fun j e m c hj hq=>by
   rw [xk] at hj
   split at hj
   ·rw [xm] at hj
    have:=hR.cell _ e m c hj hq
    rw [fQ] at this
    exact this.Gq hI (fun _ _=>rfl) (lA (hR.pure e (cm hj)) c (cm hq))
   ·cases hj)
 grind
theorem fY.W3{P:Program}{W:Nat→Prop}{L:e8}{wp:Prop}{t:TypeId}{es:List AV}{g cap:Nat}{cs:Array Value}{I:Nat→Prop}(hR:fY P W w σ L wp t es g cap cs)(hI:∀ b,σ.I b→I b)(hg:I g) :
  VR w I σ.κ (.l t es) (.slice (some ⟨g,0,none⟩) es.length cap):=by
 have:=hR.da hI hg (lo:=0) (len:=es.length) (by omega)
 simpa using this
theorem aE.freeze{L:e8}{t:TypeId}{es:List AV}{v:Value}(h:aE C st a w σ)(ho:OwnAt C.P C.W w σ L True t es v)(hi:Idle C st (some L)) :
  ∃ σ',dJ C w σ w σ'∧aE C st a w σ'∧VR w σ'.I σ'.κ (.l t es) v∧σ'.κ=σ.κ:=by
 rcases ho with ⟨rfl,rfl⟩ | ⟨g,cap,cs,rfl,hR⟩
 ·exact ⟨σ,.refl _ _ _,h,.lnil _ _ _,rfl⟩
 ·exact ⟨_,.fM (hR.wr trivial),h.Y3 hR.ow hi,hR.W3 (I:=(σ.fM g).I) (fun _ h=>.inl h) (.inr rfl),rfl⟩
theorem aE.HQ{st':St}(h:aE C st a w σ)(aF:∀ d,aQ st'.fr d= .u∨aQ st'.fr d=aQ st.fr d)(bl:∀ k cs,st'.box C.E.dp k=some cs→st.box C.E.dp k=some cs)
  (bv:∀ k cs,k.dp≠C.E.dp→st'.hp k=some cs→st.hp k=some cs):aE C st' a w σ:=by
 have h1:aE C {st with hp:=st'.hp} a w σ→aE C st' a w σ:=fun h1=>h1.forget aF ((by grind [St.box])) rfl
 refine h1 ⟨h.size,h.defers,fun d=>(h.fr d).I1 fun pl _ ⟨r,hr⟩=>?_,fun k cs hk=>?_,fun k cs hk hc=>h.hpd k cs hk (bv k cs hk hc),h.own,h.da,h.new,h.lay⟩
 ·refine ⟨?_,rfl⟩
  rw [hr]
  cases pl with
  | s d'=>exact hr.symm
  | c k off=>
   grind [St.rowAt,St.box]
 ·by_cases hd:k.dp=C.E.dp
  ·exact h.bx k cs (by grind [St.box])
  ·simp only [St.box,ah hd] at hk
   exact h.bx k cs (by grind [St.box])
theorem Kn(fr:List (Nat×AV))(ks:List Nat)(d:Nat):aQ (eW fr ks) d= .u∨aQ (eW fr ks) d=aQ fr d:=by
 induction ks with
 | nil=>exact .inl rfl
 | cons k ks ih=>
  grind [eW,aQ]
theorem ef{bx:List (Nat×List AV)}{ks:List Nat}{d:Nat}{cs:List AV}(h:bH (ep bx ks) d=some cs):bH bx d=some cs:=by
 induction ks with
 | nil=>simp [ep,bH] at h
 | cons k ks ih=>
  grind [ep,bH]
theorem aE.cn(h:aE C st a w σ)(kf kb:List Nat):aE C (st.cn kf kb) a w σ:=
 h.HQ (Kn st.fr kf) (fun k cs hk=>by
  by_cases hd:k.dp=C.E.dp
  ·grind [St.box,St.cn,ef]
  grind [St.box,St.cn]) (fun _ _ _ h=>h)
theorem aE.dA{d:Nat}{x:AV}(h:aE C st a w σ)(hx:SR C w σ st a d x (a.tmps.getD d undef))(hb:∀ t es,x= .o t es→∀ d',(aQ st.fr d').fX (.s d)=false)(hd:d<C.nt):aE C (st.dA d x) a w σ:=by
 have:=h.put hd hx hb
 have e:a.put (some d) (a.tmps.getD d undef)=a:=by
  have cr:d<a.tmps.size:=h.size▸hd
  simp only [Act.put]
  have:a.tmps.setIfInBounds d (a.tmps.getD d undef)=a.tmps:=by
   apply Array.ext_getElem?
   simp_all [F4]
  rw [this]
 rwa [e] at this
theorem R9{d:Nat}{x:AV}{v:Value}(hd:C.nt≤d)(h:aE C st a w σ)(hx:aQ st.fr d=x)(hv:a.tmps.getD d undef=v):v=undef:=by
 rw [←hv]
 have:¬d<a.tmps.size:=by rw [h.size];omega
 simp [this]
theorem ZL{d:Nat}{t:TypeId}{es:List AV}(h:aE C st a w σ)(hx:aQ st.fr d= .o t es):d<C.nt:=by
 rcases rW d C.nt with hd | hd
 ·exact hd
 ·have:=h.fr d
  rw [hx,R9 hd h rfl rfl] at this
  rcases this with ⟨_,h2⟩ | ⟨_,_,_,h2,_⟩<;>cases h2
theorem Pe{d:Nat}{x:AV}{v:Value}(h:aE C st a w σ)(hv:a.tmps.getD d undef=v)(F:v≠undef):d<C.nt:=by
 rcases rW d C.nt with hd | hd
 ·exact hd
 ·exact absurd (by rw [←hv];exact R9 (x:=aQ st.fr d) hd h rfl rfl) F
theorem Vt{k:Key}{off:Nat}{c:AV}{v:Value}(hc:c.pure=true)(h:CR C w σ k off c v):VR w σ.I σ.κ c v:=by
 cases c<;>first | exact h | cases hc
theorem aE.Gs{k:Key}{cs:List AV}{off:Nat}{x:AV}(h:aE C st a w σ)(hb:st.box C.E.dp k=some cs)(aB:∀ t es,cs[off]? ≠some (.o t es))(hx:x.one=true)
  (bC:k.dp≠C.E.dp→x.deep k.dp=true) (a2:∀ d,(aQ st.fr d).fX (.c k off)=false)
  (hv:∀ vs T,w.heap[σ.κ k]? =some (.cells vs T (0,0))→CR C w σ k off x (vs.getD off undef))
  (bL:∀ t kk u,x= .bp t kk u→∀ vs T,w.heap[σ.κ k]? =some (.cells vs T (0,0))→t=T∧vs.size=cs.length:=by intro _ _ _ e;cases e):aE C (st.bI C.E.dp k (cs.set off x)) a w σ:=by
 have ab:=fun k'=>kX (cs':=cs.set off x) hb k'
 obtain ⟨vs,T,hB⟩:=h.bx k cs hb
 refine ⟨h.size,h.defers,fun d=>?_,fun k' cs' hk=>?_,fun k' cs' hk O=>?_,h.own,h.da,h.new,h.lay⟩
 ·rw [pW]
  refine (h.fr d).I1 fun pl ao ⟨r,hr⟩=>⟨?_,rfl⟩
  rw [hr]
  cases pl with
  | s d'=>grind [s0]
  | c k' off'=>
   simp only [St.rowAt,ab] at hr ⊢
   by_cases hk:k'=k
   ·subst hk
    by_cases ho:off=off'
    ·subst ho
     rw [a2 d] at ao;cases ao
    ·simp only [aH,xu,ah ho] at hr
     simp only [hb];exact hr.symm
   ·simp only [ah hk] at hr
    exact hr.symm
 ·rw [ab] at hk
  by_cases Y:k'=k
  ·subst Y
   simp only [aH] at hk
   obtain rfl:=aq hk
   refine ⟨vs,T,hB.hh,by simpa using hB.size,hB.ow,hB.wr,fun c hm=>?_,fun i c hi=>?_,fun t kk u ht=>(lX ht).elim (fun hm=>by simpa using hB.ty t kk u hm) (fun e=>by simpa using bL t kk u e.symm vs T hB.hh),hB.kb⟩
   ·rcases lX hm with hm | rfl
    ·exact hB.one c hm
    ·exact .inl hx
   ·rw [xu] at hi
    split at hi
    ·rename_i e
     split at hi
     ·obtain rfl:=aq hi
      subst e
      exact hv vs T hB.hh
     ·cases hi
    ·exact hB.cell i c hi
  ·simp only [ah Y] at hk
   exact h.bx k' cs' hk
 ·by_cases H:k.dp=C.E.dp
  ·simp only [St.bI,H,aH] at O
   exact h.hpd k' cs' hk O
  ·simp only [St.bI,ah H,ar] at O
   split at O
   ·rename_i Y
    subst Y
    obtain rfl:=aq O
    have hold:=h.hpd k' cs hk (by grind [St.box])
    grind
   ·exact h.hpd k' cs' hk O
theorem set_set(cs:List AV)(off:Nat)(x y:AV):(cs.set off x).set off y=cs.set off y:=by
 simp_all
theorem NF(bx:List (Nat×List AV))(d:Nat)(x y:List AV):nO (nO bx d x) d y=nO bx d y:=by
 induction bx with
 | nil=>rfl
 | cons z bx ih=>
  grind [nO]
theorem N7(dp:Nat)(st:St)(k:Key)(x y:List AV):(st.bI dp k x).bI dp k y=st.bI dp k y:=by
 unfold St.bI
 split
 ·simp only [NF]
 ·congr 1
  grind [ar]
theorem HR{k:Key}{off:Nat}(h:k.dp=C.E.dp):(Pl.c k off).kq C.E=true:=by simp [Pl.kq,h]
def e8.dpt:e8→Nat
 | .box k=>k.dp
 | .rowS dp _=>dp
 | .rowC k _=>k.dp
 | .grp dp _=>dp
 | .mark dp=>dp
theorem aE.Y4{d:Nat}{cs:List AV}{vs:Array Value}{T:TypeId}{g:Nat}{ow':Nat→Option e8}(h:aE C st a w σ)(aJ:∀ b l,σ.ow b=some l→l.dpt≤C.E.dp→ow' b=some l)(bc:∀ b l,ow' b=some l→b<w.heap.size)(bd:∀ b,σ.I b→ow' b=none)
  (hh:w.heap[g]? =some (.cells vs T (0,0))) (co:(1000000≤d→T=(d - 1000000) / 1000)∧cN.n0≤g) (Q:cs.length≤vs.size) (hg:ow' g=some (.box ⟨C.E.dp,d⟩)) (hW:C.W g) (h1:∀ c∈cs,c.one=true∨c= .u)
  (B:∀ (off:Nat)(c:AV),cs[off]? =some c→match c with
   | .o t es=>OwnAt C.P C.W w ⟨σ.κ,ow',σ.I⟩ (.rowC ⟨C.E.dp,d⟩ off) True t es (vs.getD off undef)
   | c=>c.pure=true∧VR w σ.I σ.κ c (vs.getD off undef))
  (aF:∀ d',(aQ st.fr d').dD ⟨C.E.dp,d⟩=true) (bl:∀ d' cs',bH st.bx d'=some cs'→∀ c∈cs',c.dD ⟨C.E.dp,d⟩=true) :
  aE C {st with bx:=(d,cs)::st.bx} a w ⟨fun k=>if k=⟨C.E.dp,d⟩ then g else σ.κ k,ow',σ.I⟩:=by
 have bv:=HN h d
 have aX:∀ k,k≠⟨C.E.dp,d⟩→(if k=⟨C.E.dp,d⟩ then g else σ.κ k)=σ.κ k:=fun k hk=>ah hk
 have ck:∀ (x:AV),x.dD ⟨C.E.dp,d⟩=true→∀ k,x.dD k=false→k≠⟨C.E.dp,d⟩:=by
  grind
 have G:∀ pl r,({st with bx:=(d,cs)::st.bx} : St).rowAt C.E.dp pl=some r→(∀ off,pl≠.c ⟨C.E.dp,d⟩ off)→st.rowAt C.E.dp pl=some r:=by
  intro pl r hr F
  cases pl with
  | s d'=>exact hr
  | c k off=>
   simp only [St.rowAt,St.box] at hr ⊢
   by_cases hk:k.dp=C.E.dp
   ·have H:d≠k.d:=fun e=>F off (by cases k;grind)
    grind [bH]
   grind
 have b0:Marks C a.defers w ⟨fun k=>if k=⟨C.E.dp,d⟩ then g else σ.κ k,ow',σ.I⟩:=by
  obtain ⟨Ds,h0,h1,h2⟩:=h.defers
  exact ⟨Ds,h0,h1,fun D hD=>⟨aJ D _ (h2 D hD).1 (bG _),(h2 D hD).2⟩⟩
 refine ⟨h.size,b0,fun d'=>?_,fun k cs' hk=>?_,h.hpd,bc,fun b hb=>⟨(h.da b hb).1,bd b hb⟩,h.new,h.lay⟩
 ·have hx:=h.fr d'
  have hn:=aF d'
  have a4:∀ pl,(∀ off,pl≠.c ⟨C.E.dp,d⟩ off)→ic w ⟨fun k=>if k=⟨C.E.dp,d⟩ then g else σ.κ k,ow',σ.I⟩ a pl=ic w σ a pl:=by
   intro pl F
   cases pl with
   | s d''=>rfl
   | c k off=>
    grind [ic]
  generalize aQ st.fr d'=x at hx hn ⊢
  show SR _ _ _ _ _ _ x _
  cases x with
  | o t es=>exact OwnAt.cn (C:=C) hx (fun g hg=>⟨rfl,aJ _ _ hg (bG _)⟩) (fun _ h=>h) (fun _ _=>rfl)
  | r pl=>
   have F:∀ off,pl≠.c ⟨C.E.dp,d⟩ off:=by grind [AV.dD]
   intro bU
   obtain ⟨r,hr⟩:=jK.1 bU
   rw [a4 pl F]
   exact hx (by grind)
  | v pl lo len=>
   have F:∀ off,pl≠.c ⟨C.E.dp,d⟩ off:=by grind [AV.dD]
   intro t es ht aV
   rw [a4 pl F]
   exact hx t es (G pl _ ht F) aV
  | q pl i sz off=>
   have F:∀ off,pl≠.c ⟨C.E.dp,d⟩ off:=by grind [AV.dD]
   intro t es ht aV
   rw [a4 pl F]
   exact hx t es (G pl _ ht F) aV
  | w g t x=>exact ry.cn hx (fun b hb=>⟨rfl,aJ _ _ hb (bG _)⟩) fun _ h=>h
  | ag cs' rs=>exact zC.to hx (fun c hc v hv=>hv.mono (fun _ h=>h) (fun _ _=>rfl) (by grind [lV,AV.dD])) (fun _ _ hr=>⟨hr,rfl⟩)
  | _=>exact VR.mono hx (fun _ h=>h) (fun _ _=>rfl) (by grind)
 ·by_cases hK:k=⟨C.E.dp,d⟩
  ·subst hK
   simp only [St.box,aH,bH] at hk
   obtain rfl:=aq hk
   refine ⟨vs,T,by grind,Q,by grind,by grind,h1,fun off c hc=>?_,fun t _ _ ht=>(by obtain ⟨m,hm⟩:=fP.1 ht;cases (B m _ hm).1),by grind⟩
   have hv:=B off c hc
   by_cases ho:∃ t es,c= .o t es
   ·obtain ⟨t,es,rfl⟩:=ho
    rcases hv with hv | ⟨g',cap,cs',hv,hr⟩
    ·exact .inl hv
    ·exact .inr ⟨g',cap,cs',hv,⟨hr.ow,fun _=>hr.wr trivial,hr.hh,hr.pos,hr.nc,hr.ecap,hr.max,hr.size,hr.pure,hr.one,fun j e m c he hc=>(hr.cell j e m c he hc).Gq (fun _ h=>h) (fun _ _=>rfl) (lA (hr.pure e (cm he)) c (cm hc)),hr.base⟩⟩
   ·split at hv
    ·grind
    ·exact Vm (hv.2.Gq (fun _ h=>h) (fun _ _=>rfl) hv.1)
  ·have a7:st.box C.E.dp k=some cs':=by
    simp only [St.box] at hk ⊢
    by_cases H:k.dp=C.E.dp
    ·have F:d≠k.d:=fun e=>hK (by cases k;grind)
     grind [bH]
    grind
   obtain ⟨vs',T',hB⟩:=h.bx k cs' a7
   have aW:k.dp≤C.E.dp:=by
    by_cases H:k.dp=C.E.dp
    ·omega
    ·simp only [St.box,ah H] at a7
     exact bm (h.hpd k cs' H a7).1
   have b1:∀ c∈cs',c.dD ⟨C.E.dp,d⟩=true:=by
    grind [St.box]
   refine ⟨vs',T',by simp only [ah hK];exact hB.hh,hB.size,by simp only [ah hK];exact aJ _ _ hB.ow aW,fun hw=>by simp only [ah hK];exact hB.wr hw,hB.one,fun off c hc=>?_,hB.ty,by simp only [ah hK];exact hB.kb⟩
   exact CR.cn (C:=C) (hB.cell off c hc) (fun g hg=>⟨rfl,aJ _ _ hg aW⟩) (fun _ h=>h) (fun _ _=>rfl) ((by grind)) fun b g hg=>⟨rfl,aJ _ _ hg (bG _)⟩
theorem flat_get(sz:Nat):∀ {es:List AV}{i:Nat}{c:AV},(∀ e∈es,e.nc=sz)→(es.flatMap AV.cl)[i]? =some c→∃ (j m:Nat)(e:AV),es[j]? =some e∧e.cl[m]? =some c∧i=j*sz+m
 | [],i,c,_,h=>by simp at h
 | x::es,i,c,hn,h=>by
  have hx:x.cl.length=sz:=hn x (by simp)
  rw [List.flatMap_cons] at h
  rcases rW i sz with hi | hi
  ·rw [xx (by omega)] at h
   exact ⟨0,i,x,rfl,h,by omega⟩
  ·rw [yU (by omega)] at h
   obtain ⟨j,m,e,h1,h2,h3⟩:=flat_get sz (fun e he=>hn e (by simp [he])) h
   exact ⟨j+1,m,e,by simpa using h1,h2,by grind⟩
theorem Pf(sz:Nat):∀ {es:List AV},(∀ e∈es,e.nc=sz)→(es.flatMap AV.cl).length=es.length*sz
 | [],_=>by simp
 | x::es,hn=>by
  have hx:x.cl.length=sz:=hn x (by simp)
  rw [List.flatMap_cons,oQ,Pf sz (fun e he=>hn e (by simp [he])),hx,fj,fQ]
  omega
theorem Ko(sz:Nat):∀ (n:Nat)(cs:List AV),(chunks sz n cs).length=n
 | 0,_=>rfl
 | n+1,cs=>by simp [chunks,Ko sz n]
theorem vW(sz:Nat)(Q:0<sz):∀ {n:Nat}{cs:List AV}{j:Nat}{e:AV},(∀ c∈cs,c.one=true)→n*sz≤cs.length→(chunks sz n cs)[j]? =some e→e.cl=(cs.drop (j*sz)).take sz∧(j+1)*sz≤cs.length∧(AV.cG cs=true→e.pure=true)
 | 0,cs,j,e,_,_,h=>by simp [chunks] at h
 | n+1,cs,0,e,h1,hl,h=>by
  simp only [chunks,List.getElem?_cons_zero,p7] at h
  have a6:sz≤cs.length:=by grind
  refine ⟨?_,by omega,fun hp=>?_⟩
  ·rw [Nat.zero_mul,List.drop_zero,←h]
   split
   ·rename_i e1
    subst e1
    cases cs with
    | nil=>simp at a6
    | cons c cs=>
     have hc:=h1 c (by simp)
     cases c<;>first | rfl | (simp [AV.one] at hc)
   ·rfl
  ·rw [←h]
   split
   ·rename_i e1
    subst e1
    cases cs with
    | nil=>simp at a6
    | cons c cs=>grind [jm]
   ·exact lU (by grind [jm])
 | n+1,cs,j+1,e,h1,hl,h=>by
  simp only [chunks,List.getElem?_cons_succ] at h
  have a6:n*sz≤(cs.drop sz).length:=by grind
  obtain ⟨h2,h3,h4⟩:=vW sz Q ((by grind)) a6 h
  grind [List.drop_drop,lU,jm]
theorem aE.Kp{k:Key}{off nd sz:Nat}{cs es:List AV}{t:TypeId}(h:aE C st a w σ)(H:k.dp=C.E.dp)(hb:bH st.bx k.d=some cs)(hz:cs[off]? =some (.o t es))(F:es≠[])
  (ad:∀ e∈es,e.nc=sz) (aB:X4 C.E.dp (st.bI C.E.dp k (cs.set off .u)) t nd=true) :
  ∃ σ',dJ C w σ w σ'∧aE C ((({(st.bI C.E.dp k (cs.set off .u)) with bx:=(nd,es.flatMap AV.cl)::(st.bI C.E.dp k (cs.set off .u)).bx} : St).ct (.c k off)).bI C.E.dp k ((cs.set off .u).set off (.sp ⟨C.E.dp,nd⟩ 0 es.length sz))) a w σ':=by
 have aN:st.box C.E.dp k=some cs:=by simp [St.box,H,hb]
 obtain ⟨vs,T,hB⟩:=h.bx k cs aN
 have ho:OwnAt C.P C.W w σ (.rowC k off) ((Pl.c k off).kq C.E=true) t es (vs.getD off undef):=hB.cell _ _ hz
 rcases ho with ⟨rfl,_⟩ | ⟨g,cap,cs',hv,hR⟩
 ·grind
 obtain ⟨h1,hi⟩:=h.Gr (pl:=.c k off) (st':=st.bI C.E.dp k (cs.set off .u)) (by simp [St.putAt,aN])
 have h2:=h1.relabel (M:=.box ⟨C.E.dp,nd⟩) hR.ow hi
 simp only [X4,aY,eS] at aB
 have Q:sz=C.P.cellsOf t:=by
  cases es with
  | nil=>grind
  | cons e es=>exact (ad e (by simp)).symm.trans (hR.nc e (by simp))
 have bo:C.W g:=hR.wr (HR H)
 have h3:=h2.Y4 (d:=nd) (cs:=es.flatMap AV.cl) (vs:=cs') (T:=t) (g:=g) (ow':=fun b=>if b=g then some (.box ⟨C.E.dp,nd⟩) else σ.ow b) (fun b l hb _=>hb) (fun b l hb=>h2.own b l hb) (fun b hb=>(h2.da b hb).2)
  hR.hh ⟨fun _=>aB.1.1.2.symm,hR.base⟩ (by rw [Pf sz ad,hR.size,Q];exact iz _ hR.ecap) (by simp) bo (fun c hc=>by
   obtain ⟨e,he,cb⟩:=List.mem_flatMap.1 hc
   exact .inl (hR.one e he c cb)) (fun i c hc=>by
   obtain ⟨j,m,e,he,hm,rfl⟩:=flat_get sz ad hc
   have hp:=lA (hR.pure e (cm he)) c (cm hm)
   have B:=hR.cell j e m c he hm
   rw [←Q] at B
   cases c with
   | o t' bJ=>cases hp
   | _=>exact ⟨hp,B⟩)
  (nh rfl _ aB.1.2) (fun d' cs2 ch c hc=>lV (oR _ aB.2 d' cs2 ch) c hc)
 have bs:nd≠k.d:=by
  intro e
  have h4:bH (st.bI C.E.dp k (cs.set off .u)).bx nd=none:=by simp_all
  have h5:=kX (cs':=cs.set off .u) aN k
  rw [af rfl] at h5
  simp only [St.box,H,aH] at h5
  rw [e] at h4
  rw [h5] at h4;cases h4
 have Y:k≠⟨C.E.dp,nd⟩:=fun e=>bs (by rw [e])
 have cf:(({(st.bI C.E.dp k (cs.set off .u)) with bx:=(nd,es.flatMap AV.cl)::(st.bI C.E.dp k (cs.set off .u)).bx} : St).ct (.c k off)).box C.E.dp k=some (cs.set off .u):=by
  rw [Vn]
  have h5:=kX (cs':=cs.set off .u) aN k
  rw [af rfl] at h5
  simp only [St.box,H,aH,bH,ah bs] at h5 ⊢
  exact h5
 have h5:=(h3.ct (.c k off)).Gs (x:=.sp ⟨C.E.dp,nd⟩ 0 es.length sz) (off:=off) cf ((by grind)) rfl (fun F=>absurd H F) (fun d'=>od _ _ _) (fun vs' T' hh=>by
  simp only [ah Y] at hh
  have hh:w.heap[σ.κ k]? =some (.cells vs' T' (0,0)):=hh
  rw [hB.hh] at hh
  simp only [p7,Obj.cells.injEq] at hh
  rw [←hh.1,hv]
  have:=VR.sp (w:=w) (I:=σ.I) (κ:=fun k=>if k=⟨C.E.dp,nd⟩ then g else σ.κ k) ⟨C.E.dp,nd⟩ 0 es.length sz cap hR.ecap hR.max
  simp only [aH] at this
  exact this)
 refine ⟨⟨fun k=>if k=⟨C.E.dp,nd⟩ then g else σ.κ k,fun b=>if b=g then some (e8.box ⟨C.E.dp,nd⟩) else σ.ow b,σ.I⟩,⟨bG _,fun _ _ _=>rfl,fun _ h=>h,fun _ _=>rfl,fun _ h=>.inl h,fun k' a7=>?_,fun b _ hW=>?_,rfl,rfl⟩,h5⟩
 ·grind
 grind
theorem W4{x:AV}{k:Key}{off:Nat}(h:x.dD k=true):x.fX (.c k off)=false:=by
 cases x with
 | r pl=>grind [AV.fX,AV.dD]
 | v pl lo len=>grind [AV.fX,AV.dD]
 | q pl i sz o=>grind [AV.fX,AV.dD]
 | _=>rfl
theorem aE.Ch{dd:Nat} : ∀ (rs:List (Nat×Nat)){st st':St}{σ:Sp},aE C st a w σ→A.Ch dd st rs=some st'→(∀ d off,(aQ st.fr d).fX (.c ⟨C.E.dp,dd⟩ off)=false)→
  (∀ vs T,w.heap[σ.κ ⟨C.E.dp,dd⟩]? =some (.cells vs T (0,0))→∀ q∈rs,(st.rowAt C.E.dp (.s q.2)).isSome=true→vs.getD q.1 undef=a.tmps.getD q.2 undef)→
  ∃ σ',dJ C w σ w σ'∧aE C st' a w σ'∧σ'.κ=σ.κ
 | [],st,st',σ,h,he,_,_=>by
  obtain rfl:=aq he
  exact ⟨σ,.refl _ _ _,h,rfl⟩
 | (off,m)::rs,st,st',σ,h,he,a2,hv=>by
  unfold A.Ch at he
  split at he
  ·rename_i t es hx
   obtain ⟨cs,hb,f⟩:=au.1 he
   split at f
   ·rename_i a8
    have G:st.rowAt C.E.dp (.s m)=some (t,es):=by simp only [St.rowAt,hx]
    have ho:OwnAt C.P C.W w σ (.rowS C.E.dp m) True t es (a.tmps.getD m undef):=by
     have:=h.fr m
     rw [hx] at this
     exact this
    obtain ⟨h1,hi⟩:=h.Gr (pl:=.s m) (st':=st.dA m .u) rfl
    have bE:(st.dA m .u).box C.E.dp ⟨C.E.dp,dd⟩=some cs:=by simp only [St.box,aH];exact hb
    have bb:(st.dA m .u).bI C.E.dp ⟨C.E.dp,dd⟩ (cs.set off (.o t es))={(st.dA m .u) with bx:=nO st.bx dd (cs.set off (.o t es))}:=by simp [St.bI,St.dA]
    have ac:∀ d off',(aQ (st.dA m .u).fr d).fX (.c ⟨C.E.dp,dd⟩ off')=false:=fun d off'=>by
     simp only [St.dA,oc]
     split
     ·rfl
     grind
    have an:∀ {σ1:Sp},dJ C w σ w σ1→σ1.κ=σ.κ→aE C ((st.dA m .u).bI C.E.dp ⟨C.E.dp,dd⟩ (cs.set off (.o t es))) a w σ1→∃ σ',dJ C w σ w σ'∧aE C st' a w σ'∧σ'.κ=σ.κ:=by
     intro σ1 aR b5 aM
     rw [bb] at aM
     obtain ⟨σ',aP,a1,bt⟩:=aE.Ch rs aM f ac ((by grind [St.rowAt,St.dA,oc]))
     exact ⟨σ',aR.trans aP,a1,bt.trans b5⟩
    rcases ho with ⟨rfl,aC⟩ | ⟨g,cap,cs',bQ,hR⟩
    ·refine an (.refl _ _ _) rfl (h1.Gs bE ((by grind)) rfl (fun F=>absurd rfl F) (fun d=>ac d off) (fun vs T hh=>?_))
     rw [hv vs T hh (off,m) (by simp) (by rw [G];rfl)]
     exact .inl ⟨rfl,aC⟩
    ·have h2:=h1.relabel (M:=.rowC ⟨C.E.dp,dd⟩ off) hR.ow hi
     have bo:C.W g:=hR.wr trivial
     refine an (σ1:=σ.add g (some (.rowC ⟨C.E.dp,dd⟩ off))) ⟨bG _,fun _ _ _=>rfl,fun _ h=>h,fun _ _=>rfl,fun _ h=>.inl h,fun _ _=>rfl,fun b _ hW=>?_,rfl,rfl⟩ rfl
      (h2.Gs bE ((by grind)) rfl (fun F=>absurd rfl F) (fun d=>ac d off) (fun vs T hh=>?_))
     ·grind [Sp.add]
     ·rw [hv vs T hh (off,m) (by simp) (by rw [G];rfl)]
      exact .inr ⟨g,cap,cs',bQ,by simp [Sp.add],fun _=>bo,hR.hh,hR.pos,hR.nc,hR.ecap,hR.max,hR.size,hR.pure,hR.one,hR.cell,hR.base⟩
   ·cases f
  ·cases he
theorem ZM{x:bY}(h:aE C st a w σ)(hl:cE C.P (.bxg x) o.op=true)(he:execOp R Ω C.E st d (.bxg x)=some r) :
  e9 C o d a w σ r.2 r.1:=by
 simp only [cE] at hl
 split at hl
 ·rename_i t y bX
  simp only [execOp] at he
  obtain ⟨dd,a0,he⟩:=au.1 he
  split at he
  ·rename_i cs rs hx
   split at he
   ·rename_i hc
    simp only [Ep,aY] at hc
    obtain ⟨⟨cu,cq⟩,⟨aB,aF⟩,bl⟩:=hc
    have hd:dd<1000000:=by grind [mq]
    obtain ⟨st',ba,rfl⟩:=fi.1 he
    cases x with
    | c z=>have:=si hl;simp only [St.ev] at hx;rw [hx] at this;cases this
    | t n=>
     simp only [St.ev] at hx
     have hs:=h.slot hl
     rw [hx] at hs
     obtain ⟨vs,hv,hlen,aA,B,G⟩:=hs
     have hn:AV.jI ⟨C.E.dp,dd⟩ cs=true:=by
      have:=nh (p:=fun y=>y.dD ⟨C.E.dp,dd⟩) rfl _ aF n
      grind [AV.dD]
     have ce:CA w σ.I σ.κ cs vs:=⟨hlen,aA,B⟩
     obtain ⟨σ',aR,a8,hk,hI⟩:=h.O8 (T:=t) hd ce (fun c hm=>lV hn c hm) ((by grind [AV.copy,Cg])) (nh rfl _ aF) (fun d' cs' hb c hm=>lV (oR _ bl d' cs' hb) c hm) (HN h dd)
     obtain ⟨σ2,aP,a1,bt⟩:=aE.Ch rs a8 ba (fun d' off=>W4 (nh (p:=fun y=>y.dD ⟨C.E.dp,dd⟩) rfl _ aF d')) (fun vs' T' hh q hq hr=>by
      rw [hk,heap_alloc_new] at hh
      simp only [p7,Obj.cells.injEq] at hh
      rw [←hh.1]
      exact G q hq hr)
     refine .lg (cv:=.pointer (some ⟨w.heap.size,0,none⟩)) ?_ ⟨aR.trans aP,a1,by grind [o0,OQ],fun _ _ _ _ e=>by cases e⟩
     simp_all [Go.execOp,Instr.box,newVar,newRow,Value.cells]
   ·cases he
  ·cases he
 ·cases hl
theorem aE.ahp{p:wS}{st':St}(h:aE C st a w σ)(he:mb C.E st p=some st'):∃ σ',dJ C w σ w σ'∧aE C st' a w σ':=by
 cases p with
 | own d t=>
  simp only [mb] at he
  split at he
  ·rename_i hx
   obtain rfl:=aq he
   have hs:=h.fr d
   rw [hx] at hs
   have hv:=VR.HL hs
   refine ⟨σ,.refl _ _ _,(h.ct (.s d)).dA (.inl ⟨rfl,hv⟩) (fun _ _ _ d'=>od _ _ _) (Pe (x:=.n) h hv (by simp [undef]))⟩
  ·obtain rfl:=aq he
   exact ⟨σ,.refl _ _ _,h⟩
  ·cases he
 | fz d=>
  simp only [mb] at he
  split at he
  ·rename_i t es hx
   obtain rfl:=aq he
   have hs:=h.fr d
   rw [hx] at hs
   obtain ⟨σ',ay,hc,hv,_⟩:=(h.Pb d).freeze (L:=.rowS C.E.dp d) hs ((by grind [zh,mS]))
   have:=hc.dA (d:=d) (x:=.l t es) hv (fun _ _ e=>by cases e) (ZL h hx)
   refine ⟨σ',ay,this.HQ (fun d'=>.inr ?_) (fun _ _ h=>h) (fun _ _ _ h=>h)⟩
   grind [mS]
  ·cases he
 | ownC d off t=>
  simp only [mb] at he
  split at he
  ·rename_i k o hx
   split at he
   ·rename_i hm
    obtain ⟨cs,hb,f⟩:=au.1 he
    clear he
    split at f
    ·rename_i ca
     obtain rfl:=aq f
     refine ⟨σ,.refl _ _ _,(h.ct (.c k (o+off))).Gs hb ((by grind)) rfl (fun _=>rfl) (fun d'=>od _ _ _) fun vs T hh=>?_⟩
     obtain ⟨vs',T',hB⟩:=h.bx k cs hb
     have:=hB.cell _ _ ca
     rw [hB.hh] at hh
     simp only [p7,Obj.cells.injEq] at hh
     rw [←hh.1]
     exact .inl ⟨rfl,VR.HL this⟩
    ·obtain rfl:=aq f
     exact ⟨σ,.refl _ _ _,h⟩
    ·cases f
   ·cases he
  ·cases he
 | fzC d off=>
  simp only [mb] at he
  split at he
  ·rename_i k o hx
   split at he
   ·rename_i hm
    obtain ⟨cs,hb,f⟩:=au.1 he
    clear he
    split at f
    ·rename_i t es a8
     obtain rfl:=aq f
     obtain ⟨vs,T,hB⟩:=h.bx k cs hb
     have ho:OwnAt C.P C.W w σ (.rowC k (o+off)) ((Pl.c k (o+off)).kq C.E=true) t es (vs.getD (o+off) undef):=hB.cell _ _ a8
     obtain ⟨h1,hi⟩:=h.Gr (pl:=.c k (o+off)) (st':=st.bI C.E.dp k (cs.set (o+off) .u)) (by simp [St.putAt,hb])
     obtain ⟨σ',ay,hc,hv,aX⟩:=h1.freeze (ho.Gl fun _=>hm) hi
     have bk:(st.bI C.E.dp k (cs.set (o+off) .u)).box C.E.dp k=some (cs.set (o+off) .u):=by grind [kX]
     have B:(cs.set (o+off) AV.u)[o+off]? =some .u:=by
      grind
     have h2:=(hc.ct (.c k (o+off))).Gs (x:=.l t es) (off:=o+off) (cs:=cs.set (o+off) .u) bk ((by grind)) rfl (fun _=>rfl) (fun d'=>od _ _ _) (fun vs' T' hh=>by
      rw [aX,hB.hh] at hh
      simp only [p7,Obj.cells.injEq] at hh
      rw [←hh.1]
      exact hv)
     rw [set_set] at h2
     refine ⟨σ',ay,?_⟩
     have e1:((st.bI C.E.dp k (cs.set (o+off) .u)).ct (.c k (o+off))).bI C.E.dp k (cs.set (o+off) (.l t es))=
       (st.bI C.E.dp k (cs.set (o+off) (.l t es))).ct (.c k (o+off)):=by
      have:=N7 C.E.dp st k (cs.set (o+off) .u) (cs.set (o+off) (.l t es))
      unfold St.ct
      unfold St.bI at this ⊢
      split
      ·rename_i hd;simp only [af hd,NF]
      ·rename_i hd
       simp only [ah hd]
       congr 1
       funext k'
       simp only [ar]
       split<;>rfl
     rw [e1] at h2
     refine ⟨h2.size,h2.defers,fun d'=>?_,h2.bx,h2.hpd,h2.own,h2.da,h2.new,h2.lay⟩
     have cj:(st.bI C.E.dp k (cs.set (o+off) (.l t es))).rowAt C.E.dp (.c k (o+off))=none:=by
      grind [St.rowAt,kX]
     by_cases a3:(aQ (st.bI C.E.dp k (cs.set (o+off) (.l t es))).fr d').fX (.c k (o+off))=true
     ·cases hy:aQ (st.bI C.E.dp k (cs.set (o+off) (.l t es))).fr d'<;>rw [hy] at a3<;>simp [AV.fX] at a3
      ·subst a3;intro hs;grind
      ·subst a3;intro t' bJ hs;grind
      ·subst a3;intro t' bJ hs;grind
     ·have:=h2.fr d'
      have e2:aQ ((st.bI C.E.dp k (cs.set (o+off) (.l t es))).ct (.c k (o+off))).fr d'=aQ (st.bI C.E.dp k (cs.set (o+off) (.l t es))).fr d':=by
       grind [St.ct,pV]
      rw [e2] at this
      exact this.I1 (by grind [Rf])
    ·obtain rfl:=aq f
     exact ⟨σ,.refl _ _ _,h⟩
    ·obtain rfl:=aq f
     exact ⟨σ,.refl _ _ _,h.Pd hb⟩
    ·obtain rfl:=aq f
     exact ⟨σ,.refl _ _ _,h⟩
    ·cases f
   ·cases he
  ·cases he
 | fzB d agg=>
  simp only [mb] at he
  split at he
  ·rename_i k hx
   split at he
   ·rename_i H
    obtain ⟨cs,hb,f⟩:=au.1 he
    clear he
    split at f
    ·rename_i hp
     have aN:st.box C.E.dp k=some cs:=by simp [St.box,H,hb]
     obtain ⟨vs,T,hB⟩:=h.bx k cs aN
     have hs:=h.fr d
     rw [hx] at hs
     have hv:=VR.Ak hs
     have ao:=jm hp
     have aB:∀ c∈cs,∀ t es,c≠.o t es:=fun c hc t es e=>by have:=ao c hc;rw [e] at this;cases this
     have aA:∀ c∈cs,c.one=true:=fun c hc=>(hB.one c hc).resolve_right fun e=>by have:=ao c hc;rw [e] at this;cases this
     have h1:aE C {st with bx:=st.bx.filter fun y=>y.1 !=k.d} a w σ:=by
      refine h.HQ (fun _=>.inr rfl) (fun k' cs' hk=>?_) (fun _ _ _ h=>h)
      by_cases hd:k'.dp=C.E.dp
      ·simp only [St.box,hd,aH] at hk ⊢
       have hf:∀ bx:List (Nat×List AV),bH (bx.filter fun y=>y.1 !=k.d) k'.d=some cs'→bH bx k'.d=some cs':=by
        intro bx
        induction bx with
        | nil=>exact id
        | cons z bx ih=>
         intro hz
         simp only [List.filter_cons] at hz
         split at hz
         ·grind [bH]
         ·rename_i F
          simp only [bH]
          split
          ·rename_i e
           exfalso
           have h3:z.1=k.d:=by simpa using F
           have bA:∀ bx:List (Nat×List AV),bH (bx.filter fun y=>y.1 !=k.d) k.d=none:=by
            intro bx
            induction bx with
            | nil=>rfl
            | cons y bx ih=>
             grind [bH]
           grind
          ·exact ih hz
       exact hf _ hk
      grind [St.box]
     have bw:({st with bx:=st.bx.filter fun y=>y.1 !=k.d} : St).box C.E.dp k=none:=by
      simp only [St.box,H,aH]
      have bA:∀ bx:List (Nat×List AV),bH (bx.filter fun y=>y.1 !=k.d) k.d=none:=by
       intro bx
       induction bx with
       | nil=>rfl
       | cons y bx ih=>
        grind [bH]
      exact bA _
     have hi:Idle C {st with bx:=st.bx.filter fun y=>y.1 !=k.d} (some (.box k)):=
      ⟨fun _ _ _ _=>by simp,by grind,fun _ _ _ _ _ _ _=>by simp,fun _=>by simp,by simp⟩
     have h2:=h1.Y3 hB.ow hi
     have hW:C.W (σ.κ k):=hB.wr (HR H)
     have aK:d<C.nt:=Pe (x:=.p k 0) h hv (by simp [undef])
     have aa:∀ x:AV,x.cl=cs→x.pure=true→(∀ t es,x≠.o t es)→aE C {(st.dA d (.e x 0)) with bx:=st.bx.filter fun y=>y.1 !=k.d} a w (σ.fM (σ.κ k)):=by
      intro x bj bO _
      refine h2.dA (d:=d) (x:=.e x 0) ?_ (fun _ _ e=>by cases e) aK
      rw [hv]
      have:=VR.e (w:=w) (I:=(σ.fM (σ.κ k)).I) (κ:=(σ.fM (σ.κ k)).κ) x 0 (σ.κ k) 0 vs T (0,0) (.inr rfl) hB.hh bO (by unfold AV.nc;rw [bj];have:=hB.size;omega) (by grind) (fun m c hm=>by
       rw [bj] at hm
       rw [jL]
       have bD:=cm hm
       exact (Vt (ao c bD) (hB.cell m c hm)).Gq (fun _ h=>.inl h) (fun _ _=>rfl) (ao c bD))
      exact this
     split at f
     ·obtain rfl:=aq f
      exact ⟨_,.fM hW,aa (.a cs) rfl (lU ao) (fun _ _ e=>by cases e)⟩
     ·split at f
      ·rename_i c
       obtain rfl:=aq f
       have aM:=aA c (by simp)
       have bj:c.cl=[c]:=by cases c<;>first | rfl | (simp [AV.one] at aM)
       exact ⟨_,.fM hW,by grind⟩
      ·cases f
    ·cases f
   ·cases he
  ·cases he
theorem aE.pre:∀ (ps:List wS){st st':St}{σ:Sp},aE C st a w σ→sW C.E st ps=some st'→∃ σ',dJ C w σ w σ'∧aE C st' a w σ'
 | [],st,st',σ,h,he=>by obtain rfl:=aq he;exact ⟨σ,.refl _ _ _,h⟩
 | p::ps,st,st',σ,h,he=>by
  obtain ⟨st1,h1,h2⟩:=au.1 he
  obtain ⟨σ1,aR,aM⟩:=h.ahp h1
  obtain ⟨σ2,aP,a1⟩:=aE.pre ps aM h2
  exact ⟨σ2,aR.trans aP,a1⟩
end
end Go.Proofs.YtlmphbbhaeampaaGreat.A
