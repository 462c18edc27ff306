/- Addresses of elements, sums and comparisons, lengths, pieces: the model does what the abstract run says. -/
import Derived.Test.YtkkkkondjclcnaaGreatAbs4
set_option linter.unusedSectionVars false
set_option linter.unusedVariables false
set_option linter.unusedSimpArgs false
set_option linter.constructorNameAsVariable false
namespace Go.Proofs.YtkkkkondjclcnaaGreat.A
open Go
variable [aY]
section
variable {C:Cx}{st:St}{a:Act}{w:World}{σ:Sp}{o:Oper}{d:Option Nat}{R:Rec}{Ω:cm}{r:AV×St}
theorem AM{x:AV}{j:Nat}(h:qO x=some j):∃ k n,x= .i k n∧0≤n∧n.toNat=j:=by
 cases x<;>simp [qO] at h
 exact ⟨_,_,rfl,h.1,h.2⟩
theorem mJ{P:Program}{t sz:Nat}(h:sized P t sz=true):(P.info? t).isSome=true∧P.cellsOf t=sz∧0<sz:=by
 simp only [sized,Bool.and_eq_true,decide_eq_true_eq] at h
 exact ⟨h.1.1,h.1.2,h.2⟩
theorem sd{sz:Nat}{e:Option AV}{f:AV→AV}(h:elemAt sz st e f=some r):∃ x,e=some x∧x.nc=sz∧r=(f x,st):=by
 unfold elemAt at h
 obtain ⟨x,hx,h⟩:=Option.bind_eq_some_iff.1 h
 split at h
 ·rename_i hn;exact ⟨x,hx,hn,(Option.some.inj h).symm⟩
 ·cases h
theorem bq{α:Type}{l:List α}{i:Nat}{x:α}(h:l[i]? =some x):i<l.length:=by
 rcases Nat.lt_or_ge i l.length with h2 | h2
 ·exact h2
 ·simp [h2] at h
theorem VN{sz:Nat}{arr:Option Nat}{x i:aO}(h:ad C st a w σ)(hl:aV C.P (.ia sz arr x i) o.op=true)(he:execOp R Ω C.E st d (.ia sz arr x i)=some r) :
  cX C o d a w σ r.2 r.1:=by
 obtain ⟨t,x',i',hop,hlx,hli,hty⟩:∃ t x' i',o.op= .indexAddr t x' i'∧bh x' x=true∧bh i' i=true∧
   ((arr=none∧∃ e,C.P.underlying t=some (.slice e)∧sized C.P e sz=true)∨∃ n e,arr=some n∧C.P.underlying t=some (.array n e)∧sized C.P e sz=true):=by
  simp only [aV] at hl;split at hl
  ·rename_i t y hy hyy
   simp only [Bool.and_eq_true] at hl
   refine ⟨_,_,_,hyy,hl.1.1,hl.1.2,?_⟩
   have:=hl.2
   split at this
   ·rename_i e hu;exact .inl ⟨rfl,e,hu,this⟩
   ·rename_i n n' e hu
    simp only [Bool.and_eq_true,beq_iff_eq] at this
    obtain ⟨rfl,h2⟩:=this
    exact .inr ⟨_,e,rfl,hu,h2⟩
   ·cases this
  ·cases hl
 simp only [execOp] at he
 obtain ⟨j,hj,he⟩:=Option.bind_eq_some_iff.1 he
 obtain ⟨k,n,hi,hn0,rfl⟩:=AM hj
 have hvi:=(hi▸h.dR hli (by rw [hi];simp) (by rw [hi];rfl)).ix
 rcases hty with ⟨rfl,e,hu,hsz⟩ | ⟨len,e,rfl,hu,hsz⟩
 ·obtain ⟨hinfo,hcells,hpos⟩:=mJ hsz
  have hrun:∀ g b len cap,a.eval x'= .slice (some ⟨g,b,none⟩) len cap→n.toNat<len→
    (Go.execOp a.eval o).run C.P w= .ok (.value (.pointer (some ⟨g,b+n.toNat*sz,none⟩))) w:=by
   intro g b len cap hv hlt
   unfold Go.execOp
   have:0≤n∧n<(len:Int):=⟨hn0,by omega⟩
   simp [hop,hv,hvi,Instr.indexAt,asIntOf,run_underlying hu,this,iw hinfo,hcells,add_lit]
  simp only at he
  split at he
  ·rename_i t' es hx
   obtain ⟨e',hee,hnc,rfl⟩:=sd he
   have hlt:=bq hee
   obtain ⟨A,cap,hv,hes⟩:=(hx▸h.dR hlx (by rw [hx];simp) (by rw [hx];rfl)).GM
   rcases hes with hes | ⟨g,b,cs,T,fz,sz',rfl,hI,hh,ht,hsz',hnc',hsize,hp,h1,hcap,hmax,hc⟩
   ·subst hes;simp at hlt
   ·have hm:=List.mem_of_getElem? hee
    obtain rfl:sz=sz':=hnc.symm.trans (hnc' e' hm)
    refine .quiet h (hrun _ _ _ _ hv hlt) rfl ?_
    refine VR.e e' 0 g (b+n.toNat*sz) cs T fz hI hh (hp e' hm) ?_ (h1 e' hm) fun m c hmc=>hc _ e' m c hee hmc
    rw [hnc]
    have:(n.toNat+1)*sz≤es.length*sz:=Nat.mul_le_mul_right _ (by omega)
    rw [Nat.add_mul] at this
    omega
  ·rename_i t' es hx
   cases x with
   | c z=>cases he
   | t m=>
    simp only at he
    obtain ⟨e',hee,hnc,rfl⟩:=sd he
    have hlt:=bq hee
    have hx':aj st.fr m= .o t' es:=hx
    have hrow:st.rowAt C.E.dp (.s m)=some (t',es):=by simp [St.rowAt,hx']
    obtain ⟨g,cap,cs,hpv,hR⟩:=h.y4 hrow (fun e=>by subst e;simp at hlt)
    have hv:a.eval x'= .slice (some ⟨g,0,none⟩) es.length cap:=by rw [yp hlx];exact hpv
    refine .wg h (hrun _ _ _ _ hv hlt) (fun _ _ e=>by cases e) fun dd=>?_
    intro t2 es2 h2 hl2
    exact ⟨g,_,cap,hpv,by simp⟩
  ·rename_i pl hx
   obtain ⟨⟨t',es⟩,hrow,he⟩:=Option.bind_eq_some_iff.1 he
   obtain ⟨e',hee,hnc,rfl⟩:=sd he
   have hlt:=bq hee
   obtain ⟨m,rfl,hm⟩:=cS hx rfl hlx
   have hs:=hm▸h.slot hlx
   have hv:a.eval x'=dQ w σ a pl:=hs (by rw [hrow];rfl)
   obtain ⟨g,cap,cs,hpv,hR⟩:=h.y4 hrow (fun e=>by subst e;simp at hlt)
   refine .wg h (hrun _ _ _ _ (hv.trans hpv) hlt) (fun _ _ e=>by cases e) fun dd=>?_
   intro t2 es2 h2 hl2
   exact ⟨g,_,cap,hpv,by simp⟩
  ·rename_i pl lo len hx
   split at he
   ·rename_i hjl
    obtain ⟨⟨t',es⟩,hrow,he⟩:=Option.bind_eq_some_iff.1 he
    split at he
    ·rename_i hll
     obtain ⟨e',hee,hnc,rfl⟩:=sd he
     simp only at hll hee
     have hlt:=bq hee
     obtain ⟨m,rfl,hm⟩:=cS hx rfl hlx
     obtain ⟨A,n',cap,hpv,hv⟩:=(hm▸h.slot hlx) t' es hrow hll
     obtain ⟨g,cap',cs,hpv',hR⟩:=h.y4 hrow (fun e=>by subst e;simp at hlt)
     obtain ⟨rfl,rfl,rfl⟩:A=some ⟨g,0,none⟩∧n'=es.length∧cap=cap':=by
      rw [hpv] at hpv';simpa using hpv'
     have hec:=hR.ecap
     have hszz:C.P.cellsOf t'=sz:=(hR.nc e' (List.mem_of_getElem? hee)).symm.trans hnc
     rw [if_neg (by omega),hszz] at hv
     simp only [Option.map_some,add_lit,Nat.zero_add] at hv
     refine .wg h (hrun _ _ _ _ hv hjl) (fun _ _ e=>by cases e) fun dd=>?_
     intro t2 es2 h2 hl2
     exact ⟨g,_,cap,hpv,by rw [Nat.add_mul,Nat.add_zero]⟩
    ·cases he
   ·cases he
  ·rename_i k b m s hx
   split at he
   ·rename_i hc
    obtain rfl:=Option.some.inj he
    obtain ⟨cap,_,_,hv⟩:=(hx▸h.dR hlx (by rw [hx];simp) (by rw [hx];rfl)).Ip
    exact .quiet h (hrun _ _ _ _ hv hc.1) rfl (.p _ _)
   ·cases he
  ·cases he
 ·obtain ⟨hinfo,hcells,hpos⟩:=mJ hsz
  simp only at he
  split at he
  ·rename_i hlt
   have hrun:∀ g b,a.eval x'= .pointer (some ⟨g,b,none⟩)→(Go.execOp a.eval o).run C.P w= .ok (.value (.pointer (some ⟨g,b+n.toNat*sz,none⟩))) w:=by
    intro g b hv
    unfold Go.execOp
    have:0≤n∧n<(len:Int):=⟨hn0,by omega⟩
    simp [hop,hv,hvi,Instr.indexAt,asIntOf,run_underlying hu,this,iw hinfo,hcells,add_lit,Instr.sureAddr]
   split at he
   ·rename_i k b hx
    obtain rfl:=Option.some.inj he
    have hv:=(hx▸h.dR hlx (by rw [hx];simp) (by rw [hx];rfl)).uY
    exact .quiet h (hrun _ _ hv) rfl (.p _ _)
   ·rename_i z b hx
    obtain rfl:=Option.some.inj he
    obtain ⟨g,b',cs,T,fz,hv,hI,hh,hpu,hs,h1,hc⟩:=(hx▸h.dR hlx (by rw [hx];simp) (by rw [hx];rfl)).GL
    exact .quiet h (by rw [hrun _ _ hv,Nat.add_assoc]) rfl (.e z _ g b' cs T fz hI hh hpu hs h1 hc)
   ·cases he
  ·cases he
theorem Iq(l m:List UInt8):(⟨l.toArray⟩:ByteArray)++⟨m.toArray⟩=⟨(l++m).toArray⟩:=by
 apply Go.WideShapes.bytes_inj
 simp
theorem zb(l:List UInt8):(⟨l.toArray⟩:ByteArray).size=l.length:=by simp [ByteArray.size]
theorem DW(l:List UInt8):(⟨l.toArray⟩:ByteArray).toList=l:=by simp [ByteArray.toList_eq]
theorem Gn(l:List UInt8)(i j:Nat):(⟨l.toArray⟩:ByteArray).extract i j=⟨((l.take j).drop i).toArray⟩:=by
 apply Go.WideShapes.bytes_inj
 simp [ByteArray.data_extract,List.drop_take]
theorem Jy(op:BinOp)(t:TypeId)(x y:Operand)(k k':IntKind)(m n:Int):eqGuard op t x y (.int k m) (.int k' n)=pure ():=by
 unfold eqGuard;split<;>rfl
theorem AN(op:BinOp)(t:TypeId)(x y:Operand)(m n:Bool):eqGuard op t x y (.bool m) (.bool n)=pure ():=by
 unfold eqGuard;split<;>rfl
theorem s8(op:BinOp)(t:TypeId)(x y:Operand)(m n:ByteArray):eqGuard op t x y (.string m) (.string n)=pure ():=by
 unfold eqGuard;split<;>rfl
theorem VO{op:BinOp}{bl:Bool}{x y:aO}(h:ad C st a w σ)(hl:aV C.P (.bo op bl x y) o.op=true)(he:execOp R Ω C.E st d (.bo op bl x y)=some r) :
  cX C o d a w σ r.2 r.1:=by
 by_cases hm:op= .or
 ·
  subst hm
  obtain ⟨c,x',y',hop,hcal,hargs,hlx,hly⟩:∃ c x' y',o.op= .call c∧c.callee= .builtin .max∧c.args.toList=[x',y']∧bh x' x=true∧bh y' y=true:=by
   simp only [aV] at hl;split at hl
   ·simp at hl
   ·rename_i c hy
    simp only [Bool.and_eq_true] at hl
    obtain ⟨h1,h2⟩:=hl
    split at h1
    ·rename_i hcal
     split at h2
     ·rename_i x' y' ha
      simp only [Bool.and_eq_true] at h2
      exact ⟨c,x',y',hy,hcal,ha,h2.1.1,h2.1.2⟩
     ·cases h2
    ·cases h1
   ·cases hl
  have hargs':c.args=#[x',y']:=by rw [←Array.toArray_toList (xs:=c.args),hargs]
  simp only [execOp] at he
  obtain ⟨z,hz,he⟩:=Option.bind_eq_some_iff.1 he
  obtain rfl:=Option.some.inj he
  unfold ob at hz
  split at hz
  ·rename_i k m k' n hx hy
   have hvx:=(hx▸h.dR hlx (by rw [hx];simp) (by rw [hx];rfl)).ix
   have hvy:=(hy▸h.dR hly (by rw [hy];simp) (by rw [hy];rfl)).ix
   split at hz
   ·obtain rfl:=Option.some.inj hz
    refine .quiet h (cv:=.int k (if n>m then n else m)) ?_ rfl (.i _ _)
    unfold Go.execOp
    have:=run_max_int2 (P:=C.P) w c.argTypes o.type k k' m n
    simp [hop,resolve,hcal,hargs',invoke,builtin,hvx,hvy,this]
   ·cases hz
  ·split at hz
   ·cases hz
   ·cases hz
  ·cases hz
  ·cases hz
 obtain ⟨t,x',y',t',hop,hlx,hly,hbl⟩:∃ t x' y' t',o.op= .binOp op t x' y' t'∧bh x' x=true∧bh y' y=true∧bl=EW C.P t:=by
  simp only [aV] at hl;split at hl
  ·rename_i o' t x' y' t' hy
   simp only [Bool.and_eq_true,beq_iff_eq,decide_eq_true_eq] at hl
   obtain ⟨⟨⟨⟨rfl,h2⟩,h3⟩,h4⟩,_⟩:=hl
   exact ⟨_,_,_,_,hy,h2,h3,h4⟩
  ·split at hl
   ·simp only [Bool.and_eq_true] at hl
    obtain ⟨_,h2⟩:=hl
    split at h2
    ·simp only [Bool.and_eq_true,decide_eq_true_eq] at h2
     exact absurd h2.2 hm
    ·cases h2
   ·simp at hl
  ·cases hl
 simp only [execOp] at he
 obtain ⟨z,hz,he⟩:=Option.bind_eq_some_iff.1 he
 obtain rfl:=Option.some.inj he
 unfold ob at hz
 split at hz
 ·rename_i k m k' n hx hy
  have hvx:=(hx▸h.dR hlx (by rw [hx];simp) (by rw [hx];rfl)).ix
  have hvy:=(hy▸h.dR hly (by rw [hy];simp) (by rw [hy];rfl)).ix
  split at hz
  ·rename_i hk
   subst hk
   have key:∀ cv,(Go.binOp op t (.int k m) (.int k n)).run C.P w= .ok cv w→z.copy=true→VR w σ.I σ.κ z cv→cX C o d a w σ st z:=by
    intro cv hrun hc hv
    refine .quiet h (cv:=cv) ?_ hc hv
    unfold Go.execOp
    simp [hop,hvx,hvy,Jy,hrun]
   cases op<;>simp only [rh] at hz<;>first
    | exact absurd rfl hm
    | (cases hz;done)
    | (obtain rfl:=Option.some.inj hz;exact key _ (by simp [Go.binOp,Op.intArith]) rfl (.i _ _))
    | (obtain rfl:=Option.some.inj hz;exact key _ (by simp [Go.binOp,Op.intCmp]) rfl (.b _))
    | skip
   ·split at hz
    ·cases hz
    ·rename_i hn
     obtain rfl:=Option.some.inj hz
     exact key _ (by simp [Go.binOp,Op.intDiv,hn]) rfl (.i _ _)
   ·split at hz
    ·cases hz
    ·rename_i hn
     obtain rfl:=Option.some.inj hz
     exact key _ (by simp [Go.binOp,Op.intDiv,hn]) rfl (.i _ _)
  ·cases hz
 ·rename_i m n hx hy
  have hvx:=(hx▸h.dR hlx (by rw [hx];simp) (by rw [hx];rfl)).rf
  have hvy:=(hy▸h.dR hly (by rw [hy];simp) (by rw [hy];rfl)).rf
  split at hz
  ·rename_i hb
   have hu:C.P.underlying t=some .bool:=by
    rw [hb] at hbl
    have:=hbl.symm
    unfold EW at this
    split at this
    ·assumption
    ·cases this
   have he1:=run_eql_bool (P:=C.P) w t m n hu
   have he2:(Go.binOp .neq t (.bool m) (.bool n)).run C.P w= .ok (.bool (!(m==n))) w:=by
    simp only [Go.binOp] at he1 ⊢
    simp only [Sem.run_bind,Sem.run_pure] at he1 ⊢
    cases hq:(Op.equal t (.bool m) (.bool n)).run C.P w with
    | ok x w'=>simp only [hq,Result.andThen_ok,Result.ok.injEq,Value.bool.injEq] at he1 ⊢;exact ⟨by rw [he1.1],he1.2⟩
    | halt x w'=>simp [hq] at he1
   split at hz
   ·obtain rfl:=Option.some.inj hz
    refine .quiet h (cv:=.bool (m==n)) ?_ rfl (.b _)
    unfold Go.execOp
    simp only [hop,hvx,hvy,AN,Sem.run_bind,Sem.run_pure,Result.andThen_ok,he1]
   ·obtain rfl:=Option.some.inj hz
    refine .quiet h (cv:=.bool (!(m==n))) ?_ rfl (.b _)
    unfold Go.execOp
    simp only [hop,hvx,hvy,AN,Sem.run_bind,Sem.run_pure,Result.andThen_ok,he2]
   ·cases hz
  ·cases hz
 ·rename_i m n hx hy
  have hvx:=(hx▸h.dR hlx (by rw [hx];simp) (by rw [hx];rfl)).GJ
  have hvy:=(hy▸h.dR hly (by rw [hy];simp) (by rw [hy];rfl)).GJ
  split at hz
  ·split at hz
   ·rename_i hle
    obtain rfl:=Option.some.inj hz
    refine .quiet h (cv:=.string ⟨(m++n).toArray⟩) ?_ rfl (.s _)
    unfold Go.execOp
    have:¬(((m.length+n.length:Nat):Int)>IntKind.i64.max):=by
     simp [IntKind.max,IntKind.signed,IntKind.bits];omega
    simp only [hop,hvx,hvy,s8,Sem.run_bind,Sem.run_pure,Result.andThen_ok,Go.binOp,Op.stringOp,zb,this,if_false,Iq]
   ·cases hz
  ·obtain rfl:=Option.some.inj hz
   refine .quiet h (cv:=.bool (m==n)) ?_ rfl (.b _)
   unfold Go.execOp
   simp only [hop,hvx,hvy,s8,Sem.run_bind,Sem.run_pure,Result.andThen_ok,Go.binOp,Op.stringOp,DW]
  ·obtain rfl:=Option.some.inj hz
   refine .quiet h (cv:=.bool (!(m==n))) ?_ rfl (.b _)
   unfold Go.execOp
   simp only [hop,hvx,hvy,s8,Sem.run_bind,Sem.run_pure,Result.andThen_ok,Go.binOp,Op.stringOp,DW]
  ·cases hz
 ·cases hz
theorem ad.len(h:ad C st a w σ){y:Operand}{x:aO}{q:TypeId×List AV}(hl:bh y x=true)(he:st.elems C.E.dp (st.ev x)=some q) :
  ∃ A cap,a.eval y= .slice A q.2.length cap∧q.2.length≤cap:=by
 cases hx:st.ev x with
 | l t es=>
  rw [hx] at he
  obtain rfl:=Option.some.inj he
  obtain ⟨A,cap,hv,hes⟩:=(hx▸h.dR hl (by rw [hx];simp) (by rw [hx];rfl)).GM
  refine ⟨A,cap,hv,?_⟩
  rcases hes with hes | ⟨_,_,_,_,_,_,_,_,_,_,_,_,_,_,_,hcap,_⟩
  ·subst hes;exact Nat.zero_le _
  ·exact hcap
 | n=>
  rw [hx] at he
  obtain rfl:=Option.some.inj he
  exact ⟨_,_,(hx▸h.dR hl (by rw [hx];simp) (by rw [hx];rfl)).Br,Nat.le_refl _⟩
 | o t es=>
  rw [hx] at he
  obtain rfl:=Option.some.inj he
  obtain ⟨n,rfl,hn⟩:=cS hx rfl hl
  have hrow:st.rowAt C.E.dp (.s n)=some (t,es):=by simp [St.rowAt,hn]
  obtain ⟨A,cap,hv,hle⟩:=h.DV hrow
  exact ⟨A,cap,by rw [yp hl];exact hv,hle⟩
 | r pl=>
  rw [hx] at he
  obtain ⟨n,rfl,hn⟩:=cS hx rfl hl
  have hrow:st.rowAt C.E.dp pl=some q:=he
  obtain ⟨A,cap,hv,hle⟩:=h.DV (t:=q.1) (es:=q.2) hrow
  exact ⟨A,cap,((hn▸h.slot hl) (by rw [hrow];rfl)).trans hv,hle⟩
 | v pl lo len=>
  rw [hx] at he
  obtain ⟨n,rfl,hn⟩:=cS hx rfl hl
  simp only [St.elems] at he
  split at he
  ·rename_i t es hrow
   split at he
   ·rename_i hll
    obtain rfl:=Option.some.inj he
    obtain ⟨A,n',cap,hpv,hv⟩:=(hn▸h.slot hl) t es hrow hll
    obtain ⟨A',cap',hpv',hle⟩:=h.DV hrow
    obtain ⟨rfl,rfl,rfl⟩:A=A'∧n'=es.length∧cap=cap':=by
     rw [hpv] at hpv';simpa using hpv'
    have e1:((es.drop lo).take len).length=len:=by simp;omega
    simp only [e1]
    exact ⟨_,_,hv,by omega⟩
   ·cases he
  ·cases he
 | _=>rw [hx] at he;cases he
theorem VP{str:Bool}{x:aO}(h:ad C st a w σ)(hl:aV C.P (.ln str x) o.op=true)(he:execOp R Ω C.E st d (.ln str x)=some r) :
  cX C o d a w σ r.2 r.1:=by
 obtain ⟨c,y,t,hop,hcal,hargs,htys,hlo,hty⟩:∃ c y t,o.op= .call c∧c.callee= .builtin .len∧c.args.toList=[y]∧c.argTypes.toList=[t]∧bh y x=true∧
   (if str then we C.P t else (iZ C.P t).isSome)=true:=by
  simp only [aV] at hl;split at hl
  ·rename_i c hy
   simp only [Bool.and_eq_true] at hl
   obtain ⟨h1,h2⟩:=hl
   split at h1
   ·rename_i hcal
    split at h2
    ·rename_i y t ha ht
     simp only [Bool.and_eq_true] at h2
     exact ⟨c,y,t,hy,hcal,ha,ht,h2.1,h2.2⟩
    ·cases h2
   ·cases h1
  ·cases hl
 have hargs':c.args=#[y]:=by rw [←Array.toArray_toList (xs:=c.args),hargs]
 have htys':c.argTypes=#[t]:=by rw [←Array.toArray_toList (xs:=c.argTypes),htys]
 have hrun:∀ cv,(Builtin.len_ #[t] o.type #[a.eval y]).run C.P w= .ok cv w→(Go.execOp a.eval o).run C.P w= .ok (.value cv) w:=by
  intro cv hr
  unfold Go.execOp
  simp [hop,resolve,hcal,hargs',htys',invoke,builtin,hr]
 simp only [execOp] at he
 split at he
 ·rename_i l hx
  split at he
  ·rename_i hs
   obtain rfl:=Option.some.inj he
   rw [hs] at hty
   simp only [if_true] at hty
   have hu:C.P.underlying t=some .string:=by
    unfold we at hty
    split at hty
    ·assumption
    ·cases hty
   have hv:=(hx▸h.dR hlo (by rw [hx];simp) (by rw [hx];rfl)).GJ
   refine .quiet h (hrun (.int .i64 l.length) ?_) rfl (.i _ _)
   simp [Builtin.len_,run_underlying hu,hv,goInt,zb]
  ·cases he
 ·rename_i k b n s hx
  split at he
  ·cases he
  ·rename_i hs
   obtain rfl:=Option.some.inj he
   rw [if_neg hs] at hty
   obtain ⟨e,hu⟩:∃ e,C.P.underlying t=some (.slice e):=by
    unfold iZ at hty
    split at hty
    ·exact ⟨_,by assumption⟩
    ·cases hty
   obtain ⟨cap,_,_,hv⟩:=(hx▸h.dR hlo (by rw [hx];simp) (by rw [hx];rfl)).Ip
   refine .quiet h (hrun (.int .i64 n) ?_) rfl (.i _ _)
   simp [Builtin.len_,run_underlying hu,hv,goInt]
 ·split at he
  ·cases he
  ·rename_i hs
   obtain ⟨q,hq,he⟩:=Option.bind_eq_some_iff.1 he
   obtain rfl:=Option.some.inj he
   rw [if_neg hs] at hty
   obtain ⟨e,hu⟩:∃ e,C.P.underlying t=some (.slice e):=by
    unfold iZ at hty
    split at hty
    ·rename_i e hu;exact ⟨e,hu⟩
    ·cases hty
   obtain ⟨A,cap,hv,_⟩:=h.len hlo hq
   refine .quiet h (hrun (.int .i64 q.2.length) ?_) rfl (.i _ _)
   simp [Builtin.len_,run_underlying hu,hv,goInt]
theorem Kp(h:ad C st a w σ){y:Option Operand}{x:Option aO}{dflt n cap:Nat}{code:BoundsCode}(hl:uX y x=true)(hb:mM st x dflt=some n)(hn:n≤cap) :
  (match y.map a.eval with
   | some v=>Instr.sliceBound v cap code
   | none=>pure dflt:Sem Nat).run C.P w= .ok n w:=by
 cases y with
 | none=>
  cases x with
  | none=>obtain rfl:=Option.some.inj hb;rfl
  | some x=>simp [uX] at hl
 | some y=>
  cases x with
  | none=>simp [uX] at hl
  | some x=>
   have hl':bh y x=true:=hl
   obtain ⟨k,m,hi,hm0,rfl⟩:=AM (x:=st.ev x) hb
   have hv:=(hi▸h.dR hl' (by rw [hi];simp) (by rw [hi];rfl)).ix
   have:0≤m∧m≤(cap:Int):=⟨hm0,by omega⟩
   simp [hv,Instr.sliceBound,asIntOf,this]
theorem wY(h:ad C st a w σ){lo' hi':Option Operand}{lo hi:Option aO}{i j len cap:Nat}(sl:Bool)(hlo:uX lo' lo=true)(hhi:uX hi' hi=true)
  (hi0:mM st lo 0=some i) (hj0:mM st hi len=some j) (hij:i≤j) (hjc:j≤cap) :
  (Instr.sliceBounds sl len cap (lo'.map a.eval) (hi'.map a.eval) none).run C.P w= .ok (i,j,cap) w:=by
 have h1:=Kp h (cap:=cap) (code:=if sl then .sliceAcap else .sliceAlen) hhi hj0 hjc
 have h2:=Kp h (cap:=j) (code:=.sliceB) hlo hi0 hij
 unfold Instr.sliceBounds
 cases hi' with
 | none=>
  cases lo' with
  | none=>simp at h1 h2 ⊢;exact ⟨h2,h1⟩
  | some y=>simp at h1 h2 ⊢;simp [h1,h2]
 | some z=>
  cases lo' with
  | none=>simp at h1 h2 ⊢;simp [h1,h2]
  | some y=>simp at h1 h2 ⊢;simp [h1,h2]
theorem ND{P:Program}{t:TypeId}(h:we P t=true):P.underlying t=some .string:=by
 unfold we at h
 split at h
 ·assumption
 ·cases h
theorem Jz{P:Program}{t e:TypeId}(h:iZ P t=some e):P.underlying t=some (.slice e):=by
 unfold iZ at h
 split at h
 ·rename_i e' hu;rw [hu,Option.some.inj h]
 ·cases h
theorem VQ{t sz:Nat}{x:aO}{lo hi:Option aO}(h:ad C st a w σ)(hl:aV C.P (.sl t sz x lo hi) o.op=true)(he:execOp R Ω C.E st d (.sl t sz x lo hi)=some r) :
  cX C o d a w σ r.2 r.1:=by
 obtain ⟨ty,x',lo',hi',hop,hlx,hlo,hhi,hty⟩:∃ ty x' lo' hi',o.op= .slice ty x' lo' hi' none∧bh x' x=true∧uX lo' lo=true∧uX hi' hi=true∧
   (if t=0 then we C.P ty else iZ C.P ty==some t&&sized C.P t sz)=true:=by
  simp only [aV] at hl;split at hl
  ·rename_i ty x' lo' hi' hy
   simp only [Bool.and_eq_true] at hl
   exact ⟨_,_,_,_,hy,hl.1.1.1,hl.1.1.2,hl.1.2,hl.2⟩
  ·cases hl
 have hslice:∀ A n cap i j,a.eval x'= .slice A n cap→mM st lo 0=some i→mM st hi n=some j→i≤j→j≤cap→t≠0→
   C.P.cellsOf t=sz∧(Go.execOp a.eval o).run C.P w= .ok (.value (.slice (if cap=i then A else A.map (·.add (i*C.P.cellsOf t))) (j - i) (cap - i))) w:=by
  intro A n cap i j hv hi0 hj0 hij hjc ht
  rw [if_neg ht] at hty
  simp only [Bool.and_eq_true,beq_iff_eq] at hty
  obtain ⟨hinfo,hcells,hpos⟩:=mJ hty.2
  have hu:=Jz hty.1
  have hb:=wY h (len:=n) (cap:=cap) true hlo hhi hi0 hj0 hij hjc
  refine ⟨hcells,?_⟩
  unfold Go.execOp
  simp only [hop,Instr.sliceAt,Instr.slice,hv,Sem.run_bind,run_underlying hu,Result.andThen_ok,hb,Option.map_none,iw hinfo,Sem.run_pure]
 simp only [execOp] at he
 split at he
 ·rename_i l hx
  obtain ⟨i,hi0,he⟩:=Option.bind_eq_some_iff.1 he
  obtain ⟨j,hj0,he⟩:=Option.bind_eq_some_iff.1 he
  split at he
  ·rename_i hc
   simp only [Bool.and_eq_true,beq_iff_eq,decide_eq_true_eq] at hc
   obtain ⟨⟨ht0,hij⟩,hjl⟩:=hc
   obtain rfl:=Option.some.inj he
   have hv:=(hx▸h.dR hlx (by rw [hx];simp) (by rw [hx];rfl)).GJ
   have hu:=ND (by rw [if_pos ht0] at hty;exact hty)
   have hb:=wY h (len:=l.length) (cap:=l.length) false hlo hhi hi0 hj0 hij hjl
   refine .quiet h (cv:=.string ⟨((l.take j).drop i).toArray⟩) ?_ rfl (.s _)
   unfold Go.execOp
   simp only [hop,Instr.sliceAt,Instr.slice,hv,Sem.run_bind,run_underlying hu,Result.andThen_ok,Option.map_none,Option.isSome_none,Bool.false_eq_true,if_false,zb,hb,Sem.run_pure,Gn]
  ·cases he
 ·rename_i t' es hx
  obtain ⟨i,hi0,he⟩:=Option.bind_eq_some_iff.1 he
  obtain ⟨j,hj0,he⟩:=Option.bind_eq_some_iff.1 he
  split at he
  ·rename_i hc
   simp only [Bool.and_eq_true,bne_iff_ne,decide_eq_true_eq] at hc
   obtain ⟨⟨⟨ht,hall⟩,hij⟩,hjl⟩:=hc
   obtain rfl:=Option.some.inj he
   obtain ⟨A,cap,hv,hes⟩:=(hx▸h.dR hlx (by rw [hx];simp) (by rw [hx];rfl)).GM
   have hjc:j≤cap:=by
    rcases hes with hes | ⟨_,_,_,_,_,_,_,_,_,_,_,_,_,_,_,hcap,_⟩
    ·subst hes;simp only [List.length_nil] at hjl;omega
    ·omega
   obtain ⟨hcells,hrun⟩:=hslice A _ cap i j hv hi0 hj0 hij hjc ht
   refine .quiet h hrun rfl ?_
   have hlen:((es.take j).drop i).length=j - i:=by simp;omega
   by_cases hji:j=i
   ·subst hji
    have:(es.take j).drop j=[]:=List.eq_nil_of_length_eq_zero (by rw [hlen];omega)
    rw [this,Nat.sub_self]
    exact .lnil _ _ _
   ·rcases hes with hes | ⟨g,b,cs,T,fz,sz',rfl,hI,hh,ht',hsz',hnc',hsize,hp,h1,hcap,hmax,hcc⟩
    ·subst hes;simp only [List.length_nil] at hjl;omega
    ·have hzz:C.P.cellsOf t=sz':=by
      have hm:es[i]? =some (es[i]'(by omega)):=List.getElem?_eq_getElem _
      have:=List.mem_of_getElem? hm
      rw [hcells,←hnc' _ this]
      have:=List.all_eq_true.1 hall _ this
      simpa using (beq_iff_eq.1 this).symm
     rw [if_neg (by omega),hzz,←hlen]
     simp only [Option.map_some,add_lit]
     have hsub:∀ e∈(es.take j).drop i,e∈es:=fun e he=>List.mem_of_mem_take (List.mem_of_mem_drop he)
     refine VR.l t' _ g (b+i*sz') (cap - i) cs T fz sz' hI hh ht' hsz' (fun e he=>hnc' e (hsub e he)) ?_ (fun e he=>hp e (hsub e he)) (fun e he=>h1 e (hsub e he)) (by rw [hlen];omega) (by omega) fun k e m c hk hm=>?_
     ·rw [hlen]
      have:i*sz'+(j - i)*sz'≤es.length*sz':=by rw [←Nat.add_mul];exact Nat.mul_le_mul_right _ (by omega)
      omega
     ·have hk':es[i+k]? =some e:=by
       rw [List.getElem?_drop,List.getElem?_take] at hk
       split at hk
       ·exact hk
       ·cases hk
      have:=hcc (i+k) e m c hk' hm
      rwa [Nat.add_mul,←Nat.add_assoc] at this
  ·cases he
 ·rename_i pl hx
  obtain ⟨⟨t',es⟩,hrow,he⟩:=Option.bind_eq_some_iff.1 he
  obtain ⟨i,hi0,he⟩:=Option.bind_eq_some_iff.1 he
  obtain ⟨j,hj0,he⟩:=Option.bind_eq_some_iff.1 he
  split at he
  ·rename_i hc
   simp only [Bool.and_eq_true,bne_iff_ne,beq_iff_eq,decide_eq_true_eq] at hc
   obtain ⟨⟨⟨ht,htt⟩,hij⟩,hjl⟩:=hc
   obtain rfl:=Option.some.inj he
   subst htt
   obtain ⟨m,rfl,hm⟩:=cS hx rfl hlx
   obtain ⟨A,cap,hpv,hle⟩:=h.DV hrow
   have hv:a.eval x'= .slice A es.length cap:=((hm▸h.slot hlx) (by rw [hrow];rfl)).trans hpv
   obtain ⟨hcells,hrun⟩:=hslice A _ cap i j hv hi0 hj0 hij (by omega) ht
   refine .wg h hrun (fun _ _ e=>by cases e) fun dd=>?_
   intro t2 es2 h2 _
   obtain ⟨rfl,rfl⟩:t'=t2∧es=es2:=by simpa [hrow] using h2
   exact ⟨A,_,cap,hpv,rfl⟩
  ·cases he
 ·cases he
end
variable [aY]
section
variable {C:Cx}{st:St}{a:Act}{w:World}{σ:Sp}{o:Oper}{d:Option Nat}{R:Rec}{Ω:cm}{r:AV×St}
theorem VR.EY{I:Nat→Prop}{κ:Key→Nat}{c:AV}{v:Value}(h:VR w I κ c v)(hc:c.one=true):v.oneCell'=true:=by
 cases h<;>first | rfl | (simp [AV.one] at hc)
theorem VR.cells{I:Nat→Prop}{κ:Key→Nat}{y:AV}{v:Value}(h:VR w I κ y v)(h1:∀ c∈y.cl,c.one=true) :
  y.cl.length=v.cells.size∧∀ (m:Nat)(c:AV),y.cl[m]? =some c→VR w I κ c (v.cells.getD m undef):=by
 by_cases ha:∃ cs,y= .a cs
 ·obtain ⟨cs,rfl⟩:=ha
  obtain ⟨vs,rfl,hl,_,hc⟩:=h.QU
  exact ⟨hl,hc⟩
 ·have hcl:y.cl=[y]:=by cases y<;>first | rfl | exact absurd ⟨_,rfl⟩ ha
  have hv:v.cells=#[v]:=by
   have h2:=h1 y (by rw [hcl];simp)
   cases h<;>first | rfl | (simp [AV.one] at h2)
  rw [hcl,hv]
  refine ⟨rfl,fun m c hm=>?_⟩
  cases m with
  | zero=>
   have e:y=c:=by simpa using hm
   subst e
   simpa using h
  | succ m=>simp at hm
structure CA(w:World)(I:Nat→Prop)(κ:Key→Nat)(cs:List AV)(vs:Array Value):Prop where
 len:cs.length=vs.size
 one:∀ c∈cs,c.one=true∨c= .u
 cell:∀ (m:Nat)(c:AV),cs[m]? =some c→VR w I κ c (vs.getD m undef)
theorem gj(cs:List AV)(off:Nat)(ys:List AV)(h:off+ys.length≤cs.length)(i:Nat) :
  (putCells cs off ys)[i]? =if off≤i∧i<off+ys.length then ys[i - off]? else cs[i]? :=by
 unfold putCells
 rw [List.append_assoc,List.getElem?_append]
 have h1:(cs.take off).length=off:=by simp;omega
 rw [h1]
 by_cases hi:i<off
 ·rw [if_pos hi,if_neg (by omega),List.getElem?_take,if_pos hi]
 ·rw [if_neg hi,List.getElem?_append]
  by_cases hj:i<off+ys.length
  ·rw [if_pos (by omega),if_pos (by omega)]
  ·rw [if_neg (by omega),if_neg (by omega),List.getElem?_drop]
   congr 1
   omega
theorem lG(cs:List AV)(off:Nat)(ys:List AV)(h:off+ys.length≤cs.length):(putCells cs off ys).length=cs.length:=by
 unfold putCells;simp;omega
theorem zc(off:Nat):∀ (l:List (Value×Nat))(cells:Array Value),(∀ x∈l,off+x.2<cells.size)→
  (l.foldl (fun cs x=>cs.setIfInBounds (off+x.2) x.1) cells).size=cells.size
 | [],_,_=>rfl
 | x::l,cells,h=>by
  simp only [List.foldl_cons]
  rw [zc off l _ (fun y hy=>by simpa using h y (by simp [hy])),Array.size_setIfInBounds]
theorem AO(off:Nat)(us:List Value):∀ (k:Nat)(cells:Array Value),off+k+us.length≤cells.size→
  ∀ i,((us.zipIdx k).foldl (fun cs x=>cs.setIfInBounds (off+x.2) x.1) cells)[i]? =
   if off+k≤i∧i<off+k+us.length then us[i - off - k]? else cells[i]? :=by
 induction us with
 | nil=>
  intro k cells _ i
  rw [if_neg (by simp only [List.length_nil];omega)]
  rfl
 | cons u us ih=>
  intro k cells h i
  simp only [List.length_cons] at h
  simp only [List.zipIdx_cons,List.foldl_cons]
  rw [ih (k+1) _ (by simp;omega) i]
  simp only [List.length_cons]
  by_cases h1:i=off+k
  ·subst h1
   rw [if_neg (by omega),if_pos (by omega)]
   have:off+k<cells.size:=by omega
   simp [this]
  ·by_cases h2:off+(k+1)≤i∧i<off+(k+1)+us.length
   ·rw [if_pos h2,if_pos (by omega)]
    have e:i - off - k=(i - off - (k+1))+1:=by omega
    rw [e,List.getElem?_cons_succ]
   ·rw [if_neg h2,if_neg (by omega)]
    rw [Array.getElem?_setIfInBounds,if_neg (by omega)]
theorem CA.put{I:Nat→Prop}{κ:Key→Nat}{cs:List AV}{vs:Array Value}(h:CA w I κ cs vs){off:Nat}{ys:List AV}{us:List Value}(hl:ys.length=us.length)
  (ho:off+ys.length≤cs.length) (h1:∀ c∈ys,c.one=true∨c= .u) (hc:∀ (m:Nat)(c:AV),ys[m]? =some c→VR w I κ c (us[m]?.getD undef)) :
  CA w I κ (putCells cs off ys) ((us.zipIdx).foldl (fun cs x=>cs.setIfInBounds (off+x.2) x.1) vs):=by
 have hsz:((us.zipIdx).foldl (fun cs x=>cs.setIfInBounds (off+x.2) x.1) vs).size=vs.size:=zc off _ _ fun x hx=>by
  have:=List.snd_lt_of_mem_zipIdx hx
  have:=h.len
  omega
 refine ⟨by rw [lG _ _ _ ho,hsz,h.len],fun c hm=>?_,fun m c hm=>?_⟩
 ·unfold putCells at hm
  rcases List.mem_append.1 hm with hm | hm
  ·rcases List.mem_append.1 hm with hm | hm
   ·exact h.one c (List.mem_of_mem_take hm)
   ·exact h1 c hm
  ·exact h.one c (List.mem_of_mem_drop hm)
 ·rw [gj _ _ _ ho] at hm
  have hf:=AO off us 0 vs (by have:=h.len;omega) m
  simp only [Nat.add_zero,Nat.sub_zero,←hl] at hf
  rw [Array.getD_eq_getD_getElem?,hf]
  by_cases hi:off≤m∧m<off+ys.length
  ·rw [if_pos hi] at hm ⊢
   exact hc _ c hm
  ·rw [if_neg hi] at hm ⊢
   rw [←Array.getD_eq_getD_getElem?]
   exact h.cell m c hm
theorem run_places(P:Program)(w:World):∀ (fs:List Field),(∀ f∈fs,(P.info? f.type).isSome=true)→
  (fs.mapM (fun f=>do pure (f.offset,←sizeOf f.type):Field→Sem (Nat×Nat))).run P w= .ok (fs.map fun f=>(f.offset,P.cellsOf f.type)) w
 | [],_=>rfl
 | f::fs,h=>by
  rw [List.mapM_cons]
  simp only [Sem.run_bind,iw (h f (by simp)),Result.andThen_ok,Sem.run_pure,run_places P w fs (fun g hg=>h g (by simp [hg])),List.map_cons]
theorem Ir(h:ad C st a w σ){t:TypeId}{fs:Array Field}(hu:C.P.underlying t=some (.struct fs)) :
  ∀ (ps:List (Nat×Operand))(qs:List (Nat×Nat×aO))(cs:List AV)(vs:Array Value),s7 C.P t ps qs=true→CA w σ.I σ.κ cs vs→
   (∀ f∈qs,(st.ev f.2.2).copy=true∧(st.ev f.2.2).nc=f.2.1∧(∀ c∈(st.ev f.2.2).cl,c.one=true)∧f.1+f.2.1≤cs.length)→
   ∃ vs',Instr.fill (fun i=>((fs.toList.map fun f=>(f.offset,C.P.cellsOf f.type)).toArray)[i]?) vs (ps.map fun p=>(p.1,a.eval p.2))=some vs'∧
    CA w σ.I σ.κ (qs.foldl (fun cs f=>putCells cs f.1 (st.ev f.2.2).cl) cs) vs'
 | [],[],cs,vs,_,hca,_=>⟨vs,rfl,hca⟩
 | (i,y)::ps,(off,sz,x)::qs,cs,vs,hl,hca,hq=>by
  simp only [s7,Bool.and_eq_true] at hl
  obtain ⟨⟨hf,hlo⟩,hrest⟩:=hl
  obtain ⟨hcp,hnc,h1,hle⟩:=hq (off,sz,x) (by simp)
  simp only at hcp hnc h1 hle
  split at hf
  ·rename_i f hfo
   simp only [Bool.and_eq_true,beq_iff_eq] at hf
   obtain ⟨rfl,hsz⟩:=hf
   obtain ⟨hinfo,hcells,hpos⟩:=mJ hsz
   obtain ⟨fs',hu',hfi⟩:=xw hfo
   obtain rfl:fs=fs':=by rw [hu] at hu';simpa using hu'
   have hv:=h.su hlo hcp
   obtain ⟨hcl,hcc⟩:=hv.cells h1
   have hnc':(st.ev x).cl.length=sz:=hnc
   have hca':CA w σ.I σ.κ (putCells cs f.offset (st.ev x).cl) (((a.eval y).cells.zipIdx).foldl (fun cs x=>cs.setIfInBounds (f.offset+x.2) x.1) vs):=by
    have:=hca.put (off:=f.offset) (ys:=(st.ev x).cl) (us:=(a.eval y).cells.toList) (by simpa using hcl) (by omega) (fun c hc=>.inl (h1 c hc)) (fun m c hm=>by simpa [Array.getD_eq_getD_getElem?] using hcc m c hm)
    rwa [←Array.toList_zipIdx,Array.foldl_toList] at this
   have hlen:=lG cs f.offset (st.ev x).cl (by omega)
   obtain ⟨vs',hfill,hca''⟩:=Ir h hu ps qs _ _ hrest hca' (fun g hg=>by rw [hlen];exact hq g (by simp [hg]))
   refine ⟨vs',?_,hca''⟩
   have hfl:((fs.toList.map fun f=>(f.offset,C.P.cellsOf f.type)).toArray)[i]? =some (f.offset,sz):=by
    have hfi':fs.toList[i]? =some f:=by simpa using hfi
    simp [hfi,hcells]
   have hcs:(a.eval y).cells.size=sz:=by omega
   have hlt:¬(f.offset+sz>vs.size):=by have:=hca.len;omega
   simp only [List.map_cons,Instr.fill,hfl,hcs,ne_eq,not_true_eq_false,decide_false,Bool.false_or,hlt,Bool.false_eq_true,if_false,hfill]
  ·cases hf
 | [],_::_,_,_,hl,_,_=>by simp [s7] at hl
 | _::_,[],_,_,hl,_,_=>by simp [s7] at hl
theorem uZ{P:Program}{t:TypeId}{v:Value}(h:zeroOf P t=some v):∃ i,P.info? t=some i∧i.zero=some v:=by
 unfold zeroOf at h
 exact Option.bind_eq_some_iff.1 h
theorem Is{P:Program}{t:TypeId}{v:Value}(h:zeroOf P t=some v)(w:World):(zeroValue t).run P w= .ok v w:=by
 obtain ⟨i,hi,hz⟩:=uZ h
 simp [zeroValue,typeInfo,hi,hz]
theorem Gp{cs ys:List AV}{off:Nat}{c:AV}(h:c∈putCells cs off ys):c∈cs∨c∈ys:=by
 unfold putCells at h
 rcases List.mem_append.1 h with h | h
 ·rcases List.mem_append.1 h with h | h
  ·exact .inl (List.mem_of_mem_take h)
  ·exact .inr h
 ·exact .inl (List.mem_of_mem_drop h)
theorem It:∀ (qs:List (Nat×Nat×aO))(cs:List AV),(∀ c∈cs,c.one=true)→(∀ f∈qs,∀ c∈(st.ev f.2.2).cl,c.one=true)→∀ c∈qs.foldl (fun cs f=>putCells cs f.1 (st.ev f.2.2).cl) cs,c.one=true
 | [],_,h,_=>h
 | q::qs,cs,h,hq=>It qs _ (fun c hc=>(Gp hc).elim (h c) (hq q (by simp) c)) fun f hf=>hq f (by simp [hf])
theorem VS{zs:List AV}{fs:List (Nat×Nat×aO)}(h:ad C st a w σ)(hl:aV C.P (.bd zs fs) o.op=true)(he:execOp R Ω C.E st d (.bd zs fs)=some r) :
  cX C o d a w σ r.2 r.1:=by
 simp only [aV] at hl
 split at hl
 ·rename_i t parts hop
  simp only [Bool.and_eq_true] at hl
  obtain ⟨⟨hz,hparts⟩,hst⟩:=hl
  split at hz
  ·rename_i v hzv
   simp only [Bool.and_eq_true] at hz
   split at hst
   ·rename_i fds hu
    simp only [execOp] at he
    split at he
    ·rename_i hall
     obtain rfl:=Option.some.inj he
     have hall':∀ f∈fs,(st.ev f.2.2).copy=true∧(st.ev f.2.2).nc=f.2.1∧(∀ c∈(st.ev f.2.2).cl,c.one=true)∧f.1+f.2.1≤zs.length:=by
      intro f hf
      have:=List.all_eq_true.1 hall f hf
      simp only [Bool.and_eq_true,beq_iff_eq,decide_eq_true_eq] at this
      exact ⟨this.1.1.1,this.1.1.2,fun c hc=>List.all_eq_true.1 this.1.2 c hc,this.2⟩
     obtain ⟨hlen,hcell⟩:=sZ (w:=w) (I:=σ.I) (κ:=σ.κ) v.cells.toList zs hz.1
     have hca:CA w σ.I σ.κ zs v.cells:=⟨by simpa using hlen.symm,fun c hc=>.inl (List.all_eq_true.1 hz.2 c hc),fun m c hm=>by simpa [Array.getD_eq_getD_getElem?] using (hcell m c hm).1⟩
     obtain ⟨vs',hfill,hca'⟩:=Ir h hu parts.toList fs zs v.cells hparts hca hall'
     have hinfo:∀ f∈fds.toList,(C.P.info? f.type).isSome=true:=fun f hf=>by
      rw [Array.all_eq_true_iff_forall_mem] at hst
      exact hst f (by simpa using hf)
     have hplaces:=run_places C.P w fds.toList hinfo
     have hrun:(Go.execOp a.eval o).run C.P w= .ok (.value (.agg vs')) w:=by
      unfold Go.execOp
      simp only [hop,Instr.build,Sem.run_bind,Is hzv,Result.andThen_ok,run_underlying hu,Sem.run_pure]
      rw [Array.mapM_eq_mapM_toList]
      simp only [Sem.run_map,hplaces,Result.andThen_ok,Array.toList_map,hfill,Sem.run_pure]
     refine .iN hrun ⟨.refl _ _ _,h,fun _ _=>iy (.a _ _ hca'.len (It fs zs (fun c hc=>List.all_eq_true.1 hz.2 c hc) fun f hf=>(hall' f hf).2.2.1) hca'.cell),fun _ _ _ _ e=>by cases e⟩
    ·cases he
   ·cases hst
  ·cases hz
 ·cases hl
structure CG(w:World)(σ:Sp)(a:Act)(acc:List AV×List (Nat×Nat))(vs:Array Value):Prop where
 len:acc.1.length=vs.size
 one:∀ c∈acc.1,c.one=true∨c= .u
 cell:∀ (m:Nat)(c:AV),acc.1[m]? =some c→VR w σ.I σ.κ c (vs.getD m undef)
 row:∀ q∈acc.2,q.1<vs.size∧vs.getD q.1 undef=a.tmps.getD q.2 undef
theorem CG.put{acc:List AV×List (Nat×Nat)}{rs:List (Nat×Nat)}{vs:Array Value}(h:CG w σ a acc vs){off:Nat}{ys:List AV}{us:List Value}(hl:ys.length=us.length)
  (ho:off+ys.length≤acc.1.length) (h1:∀ c∈ys,c.one=true∨c= .u) (hc:∀ (m:Nat)(c:AV),ys[m]? =some c→VR w σ.I σ.κ c (us[m]?.getD undef))
  (hr:∀ q∈rs,(q∈acc.2∧¬(off≤q.1∧q.1<off+ys.length))∨(q.1=off∧us[0]? =some (a.tmps.getD q.2 undef))) :
  CG w σ a (putCells acc.1 off ys,rs) ((us.zipIdx).foldl (fun cs x=>cs.setIfInBounds (off+x.2) x.1) vs):=by
 have hca:CA w σ.I σ.κ acc.1 vs:=⟨h.len,h.one,h.cell⟩
 have hp:=hca.put hl ho h1 hc
 refine ⟨hp.len,hp.one,hp.cell,fun q hq=>?_⟩
 have hsz:((us.zipIdx).foldl (fun cs x=>cs.setIfInBounds (off+x.2) x.1) vs).size=vs.size:=zc off _ _ fun x hx=>by
  have:=List.snd_lt_of_mem_zipIdx hx
  have:=h.len
  omega
 have hf:=AO off us 0 vs (by have:=h.len;omega) q.1
 simp only [Nat.add_zero,Nat.sub_zero,←hl] at hf
 rw [hsz,Array.getD_eq_getD_getElem?,hf]
 rcases hr q hq with ⟨h2,h3⟩ | ⟨h2,h3⟩
 ·rw [if_neg h3,←Array.getD_eq_getD_getElem?]
  exact h.row q h2
 ·have hlt:0<us.length:=(List.getElem?_eq_some_iff.1 h3).1
  rw [h2,if_pos (by omega),Nat.sub_self,h3]
  exact ⟨by have:=h.len;omega,rfl⟩
end
end Go.Proofs.YtkkkkondjclcnaaGreat.A
