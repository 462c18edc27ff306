/- Addresses of elements, sums and comparisons, lengths, pieces: the model does what the abstract run says. -/
import Derived.Test.YtkkkkondjclcnaaGreatAbs4
set_option linter.all false
namespace Go.Proofs.YtkkkkondjclcnaaGreat.A
open Go
variable [bJ]
section
variable {C:Cx}{st:St}{a:Act}{w:World}{σ:Sp}{o:Oper}{d:Option Nat}{R:Rec}{Ω:du}{r:AV×St}
theorem C5{x:AV}{j:Nat}(h:qV x=some j):∃ k n,x= .i k n∧0≤n∧n.toNat=j:=by
 cases x<;>simp [qV] at h
 grind
theorem og{P:Program}{t sz:Nat}(h:sized P t sz=true):(P.info? t).isSome=true∧P.cellsOf t=sz∧0<sz:=by
 grind [sized]
theorem tY{sz:Nat}{e:Option AV}{f:AV→AV}(h:elemAt sz st e f=some r):∃ x,e=some x∧x.nc=sz∧r=(f x,st):=by
 grind [elemAt,Option.bind_eq_some_iff]
theorem cB{α:Type}{l:List α}{i:Nat}{x:α}(h:l[i]? =some x):i<l.length:=by
 grind
theorem abH{sz:Nat}{arr:Option Nat}{x i:ba}(h:au C st a w σ)(hl:bC C.P (.ia sz arr x i) o.op=true)(he:execOp R Ω C.E st d (.ia sz arr x i)=some r) :
  eo C o d a w σ r.2 r.1:=by
 obtain ⟨t,x',i',hop,hlx,hli,hty⟩:∃ t x' i',o.op= .indexAddr t x' i'∧bK x' x=true∧bK i' i=true∧
   ((arr=none∧∃ e,C.P.underlying t=some (.slice e)∧sized C.P e sz=true)∨∃ n e,arr=some n∧C.P.underlying t=some (.array n e)∧sized C.P e sz=true):=by
  simp only [bC] at hl;grind
 simp only [execOp] at he
 obtain ⟨j,hj,he⟩:=ah.1 he
 obtain ⟨k,n,hi,hn0,rfl⟩:=C5 hj
 have hvi:=(hi▸h.eM hli (by rw [hi];simp) (by rw [hi];rfl)).mK
 rcases hty with ⟨rfl,e,hu,hsz⟩ | ⟨len,e,rfl,hu,hsz⟩
 ·obtain ⟨hinfo,hcells,hpos⟩:=og hsz
  have hrun:∀ g b len cap,a.eval x'= .slice (some ⟨g,b,none⟩) len cap→n.toNat<len→
    (Go.execOp a.eval o).run C.P w= .ok (.value (.pointer (some ⟨g,b+n.toNat*sz,none⟩))) w:=by
   intro g b len cap hv hlt
   unfold Go.execOp
   have:0≤n∧n<(len:Int):=⟨hn0,by omega⟩
   simp [hop,hv,hvi,Instr.indexAt,asIntOf,run_underlying hu,this,jM hinfo,hcells,add_lit]
  simp only at he
  split at he
  ·rename_i t' es hx
   obtain ⟨e',hee,hnc,rfl⟩:=tY he
   have hlt:=cB hee
   obtain ⟨A,cap,hv,hes⟩:=(hx▸h.eM hlx (by rw [hx];simp) (by rw [hx];rfl)).K3
   rcases hes with hes | ⟨g,b,cs,T,fz,sz',rfl,hI,hh,ht,hsz',hnc',hsize,hp,h1,hcap,hmax,hc⟩
   ·grind
   ·have hm:=aL hee
    obtain rfl:sz=sz':=hnc.symm.trans (hnc' e' hm)
    refine .quiet h (hrun _ _ _ _ hv hlt) rfl ?_
    refine VR.e e' 0 g (b+n.toNat*sz) cs T fz hI hh (hp e' hm) ?_ (h1 e' hm) (by grind)
    rw [hnc]
    have:(n.toNat+1)*sz≤es.length*sz:=fv _ (by omega)
    grind
  ·rename_i t' es hx
   cases x with
   | c z=>cases he
   | t m=>
    simp only at he
    obtain ⟨e',hee,hnc,rfl⟩:=tY he
    have hlt:=cB hee
    have hx':ax st.fr m= .o t' es:=hx
    have hrow:st.rowAt C.E.dp (.s m)=some (t',es):=by simp [St.rowAt,hx']
    obtain ⟨g,cap,cs,hpv,hR⟩:=h.Bm hrow (fun e=>by grind)
    have hv:a.eval x'= .slice (some ⟨g,0,none⟩) es.length cap:=by rw [Ap hlx];exact hpv
    refine .xY h (hrun _ _ _ _ hv hlt) (fun _ _ e=>by cases e) fun dd=>?_
    intro t2 es2 h2 hl2
    grind
  ·rename_i pl hx
   obtain ⟨⟨t',es⟩,hrow,he⟩:=ah.1 he
   obtain ⟨e',hee,hnc,rfl⟩:=tY he
   have hlt:=cB hee
   obtain ⟨m,rfl,hm⟩:=dR hx rfl hlx
   have hs:=hm▸h.slot hlx
   have hv:a.eval x'=fS w σ a pl:=hs (by rw [hrow];rfl)
   obtain ⟨g,cap,cs,hpv,hR⟩:=h.Bm hrow (fun e=>by grind)
   refine .xY h (hrun _ _ _ _ (hv.trans hpv) hlt) (fun _ _ e=>by cases e) fun dd=>?_
   intro t2 es2 h2 hl2
   grind
  ·rename_i pl lo len hx
   split at he
   ·rename_i hjl
    obtain ⟨⟨t',es⟩,hrow,he⟩:=ah.1 he
    split at he
    ·rename_i hll
     obtain ⟨e',hee,hnc,rfl⟩:=tY he
     simp only at hll hee
     have hlt:=cB hee
     obtain ⟨m,rfl,hm⟩:=dR hx rfl hlx
     obtain ⟨A,n',cap,hpv,hv⟩:=(hm▸h.slot hlx) t' es hrow hll
     obtain ⟨g,cap',cs,hpv',hR⟩:=h.Bm hrow (fun e=>by grind)
     obtain ⟨rfl,rfl,rfl⟩:A=some ⟨g,0,none⟩∧n'=es.length∧cap=cap':=by
      grind
     have hec:=hR.ecap
     have hszz:C.P.cellsOf t'=sz:=(hR.nc e' (aL hee)).symm.trans hnc
     rw [ad (by omega),hszz] at hv
     simp only [gv,add_lit,eU] at hv
     refine .xY h (hrun _ _ _ _ hv hjl) (fun _ _ e=>by cases e) fun dd=>?_
     intro t2 es2 h2 hl2
     grind [Nat.add_mul]
    ·cases he
   ·cases he
  ·rename_i k b m s hx
   split at he
   ·rename_i hc
    obtain rfl:=aa he
    obtain ⟨cap,_,_,hv⟩:=(hx▸h.eM hlx (by rw [hx];simp) (by rw [hx];rfl)).Q7
    exact .quiet h (hrun _ _ _ _ hv hc.1) rfl (.p _ _)
   ·cases he
  ·cases he
 ·obtain ⟨hinfo,hcells,hpos⟩:=og hsz
  simp only at he
  split at he
  ·rename_i hlt
   have hrun:∀ g b,a.eval x'= .pointer (some ⟨g,b,none⟩)→(Go.execOp a.eval o).run C.P w= .ok (.value (.pointer (some ⟨g,b+n.toNat*sz,none⟩))) w:=by
    intro g b hv
    unfold Go.execOp
    have:0≤n∧n<(len:Int):=⟨hn0,by omega⟩
    simp [hop,hv,hvi,Instr.indexAt,asIntOf,run_underlying hu,this,jM hinfo,hcells,add_lit,Instr.sureAddr]
   split at he
   ·rename_i k b hx
    obtain rfl:=aa he
    have hv:=(hx▸h.eM hlx (by rw [hx];simp) (by rw [hx];rfl)).xm
    exact .quiet h (hrun _ _ hv) rfl (.p _ _)
   ·rename_i z b hx
    obtain rfl:=aa he
    obtain ⟨g,b',cs,T,fz,hv,hI,hh,hpu,hs,h1,hc⟩:=(hx▸h.eM hlx (by rw [hx];simp) (by rw [hx];rfl)).K2
    exact .quiet h (by grind) rfl (.e z _ g b' cs T fz hI hh hpu hs h1 hc)
   ·cases he
  ·cases he
theorem LD(l m:List UInt8):(⟨l.toArray⟩:ByteArray)++⟨m.toArray⟩=⟨(l++m).toArray⟩:=by
 apply Go.WideShapes.bytes_inj
 simp
theorem Bn(l:List UInt8):(⟨l.toArray⟩:ByteArray).size=l.length:=by simp [ByteArray.size]
theorem GV(l:List UInt8):(⟨l.toArray⟩:ByteArray).toList=l:=by simp [ByteArray.toList_eq]
theorem Kd(l:List UInt8)(i j:Nat):(⟨l.toArray⟩:ByteArray).extract i j=⟨((l.take j).drop i).toArray⟩:=by
 apply Go.WideShapes.bytes_inj
 simp [ByteArray.data_extract,List.drop_take]
theorem Nl(op:BinOp)(t:TypeId)(x y:Operand)(k k':IntKind)(m n:Int):eqGuard op t x y (.int k m) (.int k' n)=pure ():=by
 simp_all [eqGuard]
theorem C6(op:BinOp)(t:TypeId)(x y:Operand)(m n:Bool):eqGuard op t x y (.bool m) (.bool n)=pure ():=by
 simp_all [eqGuard]
theorem uZ(op:BinOp)(t:TypeId)(x y:Operand)(m n:ByteArray):eqGuard op t x y (.string m) (.string n)=pure ():=by
 simp_all [eqGuard]
theorem GW{P:Program}{I:Nat→Prop}{κ:Key→Nat}(dd:Nat)(vs ws:Array Value):∀ (fs:List Field)(i:Nat)(ks:List Nat)(xs ys:List AV)(b:Bool),q9 P i ks fs=true→iZ ks xs ys=some b→
  (∀ (j:Nat)(c:AV),xs[j]? =some c→i+j<vs.size∧VR w I κ c (vs.getD (i+j) undef))→(∀ (j:Nat)(c:AV),ys[j]? =some c→i+j<ws.size∧VR w I κ c (ws.getD (i+j) undef))→
  (Op.eqFields (dd+1) vs ws fs).run P w= .ok b w
 | [],i,ks,xs,ys,b,hf,he,hx,hy=>by
  cases ks with
  | nil=>
   cases xs<;>cases ys<;>simp only [iZ] at he<;>try contradiction
   obtain rfl:=aa he
   simp [Op.eqFields]
  | cons k ks=>simp [q9] at hf
 | f::fs,i,ks,xs,ys,b,hf,he,hx,hy=>by
  cases ks with
  | nil=>simp [q9] at hf
  | cons k ks=>
   simp only [q9,aA,qj,ne_eq,cS] at hf
   obtain ⟨⟨⟨⟨h1,h2⟩,h3⟩,h4⟩,h5⟩:=hf
   cases xs with
   | nil=>grind [iZ]
   | cons x xs=>
   cases ys with
   | nil=>grind [iZ]
   | cons y ys=>
   obtain ⟨sx,vx⟩:=hx 0 x rfl
   obtain ⟨sy,vy⟩:=hy 0 y rfl
   rw [lR] at sx sy vx vy
   rw [bn,ku sx] at vx
   rw [bn,ku sy] at vy
   simp only [kt] at vx vy
   have p1:=run_part_plain (w:=w) h3 (ku sx)
   have p2:=run_part_plain (w:=w) h3 (ku sy)
   have hx':∀ (j:Nat)(c:AV),xs[j]? =some c→i+1+j<vs.size∧VR w I κ c (vs.getD (i+1+j) undef):=fun j c hc=>by
    have:=hx (j+1) c (by simpa using hc)
    grind
   have hy':∀ (j:Nat)(c:AV),ys[j]? =some c→i+1+j<ws.size∧VR w I κ c (ws.getD (i+1+j) undef):=fun j c hc=>by
    have:=hy (j+1) c (by simpa using hc)
    rwa [show i+(j+1)=i+1+j by omega] at this
   have step:∀ (q r:Bool),(Op.equalIn (dd+1) f.type vs[i] ws[i]).run P w= .ok q w→iZ ks xs ys=some r→(q&&r)=b→(Op.eqFields (dd+1) vs ws (f::fs)).run P w= .ok b w:=by
    intro q r hq hr hb
    have ih:=GW dd vs ws fs (i+1) ks xs ys r h5 hr hx' hy'
    simp only [Op.eqFields,h1,ne_eq,ot,aq,Sem.run_bind,h2,p1,p2,hq,Result.andThen_ok]
    cases q with
    | false=>
      obtain rfl:false=b:=hb
      simp
    | true=>
     obtain rfl:r=b:=hb
     simpa using ih
   unfold iZ at he
   split at he
   ·grind
   ·rename_i hk0 hxx hyy
    obtain ⟨rfl,rfl⟩:=np hk0
    obtain ⟨rfl,rfl⟩:=np hxx
    obtain ⟨rfl,rfl⟩:=np hyy
    obtain ⟨r,hr,rfl⟩:=c9.1 he
    split at h4<;>try contradiction
    rename_i hu
    exact step _ r (by rw [vx.vz,vy.vz];grind [run_equalIn_bool']) hr rfl
   ·rename_i hk0 hxx hyy
    obtain ⟨rfl,rfl⟩:=np hk0
    obtain ⟨rfl,rfl⟩:=np hxx
    obtain ⟨rfl,rfl⟩:=np hyy
    split at he
    ·rename_i hkk
     subst hkk
     obtain ⟨r,hr,rfl⟩:=c9.1 he
     split at h4<;>try contradiction
     rename_i hu
     exact step _ r (by rw [vx.mK,vy.mK];grind [run_equalIn_int]) hr rfl
    ·cases he
   ·rename_i hk0 hxx hyy
    obtain ⟨rfl,rfl⟩:=np hk0
    obtain ⟨rfl,rfl⟩:=np hxx
    obtain ⟨rfl,rfl⟩:=np hyy
    obtain ⟨r,hr,rfl⟩:=c9.1 he
    split at h4<;>try contradiction
    rename_i hu
    refine step _ r ?_ hr rfl
    rw [vx.Eb,vy.Eb,run_equalIn_string w dd f.type _ _ hu]
    simp [ByteArray.toList_eq]
   ·cases he
theorem abI{ks:List Nat}{ng:Bool}{x y:ba}(h:au C st a w σ)(hl:bC C.P (.ae ks ng x y) o.op=true)(he:execOp R Ω C.E st d (.ae ks ng x y)=some r) :
  eo C o d a w σ r.2 r.1:=by
 obtain ⟨t,x',y',t',op,hop,hopn,hlx,hly,hfl⟩:∃ t x' y' t' op,o.op= .binOp op t x' y' t'∧op=(if ng then BinOp.neq else .eql)∧bK x' x=true∧bK y' y=true∧Pw C.P ks t=true:=by
  simp only [bC] at hl;grind
 simp only [execOp] at he
 split at he
 ·rename_i xs ys hx hy
  obtain ⟨q,hq,he⟩:=ah.1 he
  obtain rfl:=aa he
  have hvx:=hx▸h.eM hlx (by rw [hx];simp) (by rw [hx];rfl)
  have hvy:=hy▸h.eM hly (by rw [hy];simp) (by rw [hy];rfl)
  generalize hvv:a.eval x'=vx at hvx
  generalize hww:a.eval y'=vy at hvy
  cases hvx with | a _ vs sx _ cx=>
  cases hvy with | a _ ws sy _ cy=>
  unfold Pw at hfl
  split at hfl
  ·rename_i fs hu
   simp only [aA,Cv,ou] at hfl
   obtain ⟨⟨f1,f2⟩,f3⟩:=hfl
   have hfo:C.P.fieldsOf t=fs:=by simp [Program.fieldsOf,hu]
   have hrun:(Op.equal t (.agg vs) (.agg ws)).run C.P w= .ok q w:=by
    show (Op.equalIn (9999+1) t (.agg vs) (.agg ws)).run C.P w= .ok q w
    rw [run_equalIn_struct w 9999 t vs ws (by grind) f2,hfo]
    exact GW 9998 vs ws fs.toList 0 ks xs ys q f1 hq
     (fun j c hc=>⟨by have:=(dh.1 hc).1;omega,by simpa using cx j c hc⟩)
     ((by grind))
   have hguard:(eqGuard op t x' y' (.agg vs) (.agg ws)).run C.P w= .ok () w:=by
    simp_all [eqGuard]
   refine .quiet h (cv:=.bool (if ng then !q else q)) ?_ rfl (.b _)
   unfold Go.execOp
   subst hopn
   cases ng<;>simp [hop,hvv,hww,hguard,Go.binOp,hrun]<;>simp_all
  ·cases hfl
 ·cases he
theorem abJ{op:BinOp}{bl:Bool}{x y:ba}(h:au C st a w σ)(hl:bC C.P (.bo op bl x y) o.op=true)(he:execOp R Ω C.E st d (.bo op bl x y)=some r) :
  eo C o d a w σ r.2 r.1:=by
 by_cases hm:op= .or
 ·
  subst hm
  obtain ⟨c,x',y',hop,hcal,hargs,hlx,hly⟩:∃ c x' y',o.op= .call c∧c.callee= .builtin .max∧c.args.toList=[x',y']∧bK x' x=true∧bK y' y=true:=by
   simp only [bC] at hl;grind
  have hargs':c.args=#[x',y']:=by grind
  simp only [execOp] at he
  obtain ⟨z,hz,he⟩:=ah.1 he
  obtain rfl:=aa he
  unfold py at hz
  split at hz
  ·rename_i k m k' n hx hy
   have hvx:=(hx▸h.eM hlx (by rw [hx];simp) (by rw [hx];rfl)).mK
   have hvy:=(hy▸h.eM hly (by rw [hy];simp) (by rw [hy];rfl)).mK
   split at hz
   ·obtain rfl:=aa hz
    refine .quiet h (cv:=.int k (if n>m then n else m)) ?_ rfl (.i _ _)
    simp_all [Go.execOp,run_max_int2,resolve,invoke,builtin]
   ·cases hz
  ·grind
  ·cases hz
  ·cases hz
 obtain ⟨t,x',y',t',hop,hlx,hly,hbl⟩:∃ t x' y' t',o.op= .binOp op t x' y' t'∧bK x' x=true∧bK y' y=true∧bl=Iv C.P t:=by
  simp only [bC] at hl;grind
 simp only [execOp] at he
 obtain ⟨z,hz,he⟩:=ah.1 he
 obtain rfl:=aa he
 unfold py at hz
 split at hz
 ·rename_i k m k' n hx hy
  have hvx:=(hx▸h.eM hlx (by rw [hx];simp) (by rw [hx];rfl)).mK
  have hvy:=(hy▸h.eM hly (by rw [hy];simp) (by rw [hy];rfl)).mK
  split at hz
  ·rename_i hk
   subst hk
   have key:∀ cv,(Go.binOp op t (.int k m) (.int k n)).run C.P w= .ok cv w→z.copy=true→VR w σ.I σ.κ z cv→eo C o d a w σ st z:=by
    intro cv hrun hc hv
    refine .quiet h (cv:=cv) ?_ hc hv
    simp_all [Go.execOp,Nl]
   cases op<;>simp only [sV] at hz<;>first
    | exact absurd rfl hm
    | (cases hz;done)
    | (obtain rfl:=aa hz;exact key _ (by simp [Go.binOp,Op.intArith]) rfl (.i _ _))
    | (obtain rfl:=aa hz;exact key _ (by simp [Go.binOp,Op.intCmp]) rfl (.b _))
    | skip
   ·split at hz
    ·cases hz
    ·rename_i hn
     obtain rfl:=aa hz
     exact key _ (by simp [Go.binOp,Op.intDiv,hn]) rfl (.i _ _)
   ·split at hz
    ·cases hz
    ·rename_i hn
     obtain rfl:=aa hz
     exact key _ (by simp [Go.binOp,Op.intDiv,hn]) rfl (.i _ _)
  ·cases hz
 ·rename_i m n hx hy
  have hvx:=(hx▸h.eM hlx (by rw [hx];simp) (by rw [hx];rfl)).vz
  have hvy:=(hy▸h.eM hly (by rw [hy];simp) (by rw [hy];rfl)).vz
  split at hz
  ·rename_i hb
   have hu:C.P.underlying t=some .bool:=by
    grind [Iv]
   have he1:=run_eql_bool (P:=C.P) w t m n hu
   have he2:(Go.binOp .neq t (.bool m) (.bool n)).run C.P w= .ok (.bool (!(m==n))) w:=by
    simp only [Go.binOp] at he1 ⊢
    simp only [Sem.run_bind,Sem.run_pure] at he1 ⊢
    cases hq:(Op.equal t (.bool m) (.bool n)).run C.P w with
    | ok x w'=>simp only [hq,Result.andThen_ok,Result.ok.injEq,Value.bool.injEq] at he1 ⊢;exact ⟨by rw [he1.1],he1.2⟩
    | halt x w'=>simp [hq] at he1
   split at hz
   ·obtain rfl:=aa hz
    refine .quiet h (cv:=.bool (m==n)) ?_ rfl (.b _)
    unfold Go.execOp
    simp only [hop,hvx,hvy,C6,Sem.run_bind,Sem.run_pure,Result.andThen_ok,he1]
   ·obtain rfl:=aa hz
    refine .quiet h (cv:=.bool (!(m==n))) ?_ rfl (.b _)
    grind [Go.execOp,C6,Sem.run_bind,Sem.run_pure,Result.andThen_ok]
   ·cases hz
  ·cases hz
 ·rename_i m n hx hy
  have hvx:=(hx▸h.eM hlx (by rw [hx];simp) (by rw [hx];rfl)).Eb
  have hvy:=(hy▸h.eM hly (by rw [hy];simp) (by rw [hy];rfl)).Eb
  split at hz
  ·split at hz
   ·rename_i hle
    obtain rfl:=aa hz
    refine .quiet h (cv:=.string ⟨(m++n).toArray⟩) ?_ rfl (.s _)
    unfold Go.execOp
    have:¬(((m.length+n.length:Nat):Int)>IntKind.i64.max):=by
     grind [IntKind.max,IntKind.bits]
    grind [uZ,Sem.run_pure,Go.binOp,Op.stringOp,Bn,LD]
   ·cases hz
  ·obtain rfl:=aa hz
   refine .quiet h (cv:=.bool (m==n)) ?_ rfl (.b _)
   grind [Go.execOp,uZ,Sem.run_pure,Go.binOp,Op.stringOp,GV]
  ·obtain rfl:=aa hz
   refine .quiet h (cv:=.bool (!(m==n))) ?_ rfl (.b _)
   grind [Go.execOp,uZ,Sem.run_pure,Go.binOp,Op.stringOp,GV]
  ·cases hz
 ·cases hz
theorem au.len(h:au C st a w σ){y:Operand}{x:ba}{q:TypeId×List AV}(hl:bK y x=true)(he:st.elems C.E.dp (st.ev x)=some q) :
  ∃ A cap,a.eval y= .slice A q.2.length cap∧q.2.length≤cap:=by
 cases hx:st.ev x with
 | l t es=>
  rw [hx] at he
  obtain rfl:=aa he
  obtain ⟨A,cap,hv,hes⟩:=(hx▸h.eM hl (by rw [hx];simp) (by rw [hx];rfl)).K3
  grind
 | n=>
  rw [hx] at he
  obtain rfl:=aa he
  exact ⟨_,_,(hx▸h.eM hl (by rw [hx];simp) (by rw [hx];rfl)).Ec,aS _⟩
 | o t es=>
  rw [hx] at he
  obtain rfl:=aa he
  obtain ⟨n,rfl,hn⟩:=dR hx rfl hl
  have hrow:st.rowAt C.E.dp (.s n)=some (t,es):=by simp [St.rowAt,hn]
  obtain ⟨A,cap,hv,hle⟩:=h.GU hrow
  exact ⟨A,cap,by rw [Ap hl];exact hv,hle⟩
 | r pl=>
  rw [hx] at he
  obtain ⟨n,rfl,hn⟩:=dR hx rfl hl
  have hrow:st.rowAt C.E.dp pl=some q:=he
  obtain ⟨A,cap,hv,hle⟩:=h.GU (t:=q.1) (es:=q.2) hrow
  exact ⟨A,cap,((hn▸h.slot hl) (by rw [hrow];rfl)).trans hv,hle⟩
 | v pl lo len=>
  rw [hx] at he
  obtain ⟨n,rfl,hn⟩:=dR hx rfl hl
  simp only [St.elems] at he
  split at he
  ·rename_i t es hrow
   split at he
   ·rename_i hll
    obtain rfl:=aa he
    obtain ⟨A,n',cap,hpv,hv⟩:=(hn▸h.slot hl) t es hrow hll
    obtain ⟨A',cap',hpv',hle⟩:=h.GU hrow
    grind
   ·cases he
  ·cases he
 | _=>rw [hx] at he;cases he
theorem abK{str:Bool}{x:ba}(h:au C st a w σ)(hl:bC C.P (.ln str x) o.op=true)(he:execOp R Ω C.E st d (.ln str x)=some r) :
  eo C o d a w σ r.2 r.1:=by
 obtain ⟨c,y,t,hop,hcal,hargs,htys,hlo,hty⟩:∃ c y t,o.op= .call c∧c.callee= .builtin .len∧c.args.toList=[y]∧c.argTypes.toList=[t]∧bK y x=true∧
   (if str then xX C.P t else (kh C.P t).isSome)=true:=by
  simp only [bC] at hl;grind
 have hargs':c.args=#[y]:=by grind
 have htys':c.argTypes=#[t]:=by grind
 have hrun:∀ cv,(Builtin.len_ #[t] o.type #[a.eval y]).run C.P w= .ok cv w→(Go.execOp a.eval o).run C.P w= .ok (.value cv) w:=by
  simp_all [Go.execOp,resolve,invoke,builtin]
 simp only [execOp] at he
 split at he
 ·rename_i l hx
  split at he
  ·rename_i hs
   obtain rfl:=aa he
   rw [hs] at hty
   simp only [aq] at hty
   have hu:C.P.underlying t=some .string:=by
    grind [xX]
   have hv:=(hx▸h.eM hlo (by rw [hx];simp) (by rw [hx];rfl)).Eb
   refine .quiet h (hrun (.int .i64 l.length) ?_) rfl (.i _ _)
   simp [Builtin.len_,run_underlying hu,hv,goInt,Bn]
  ·cases he
 ·rename_i k b n s hx
  split at he
  ·cases he
  ·rename_i hs
   obtain rfl:=aa he
   rw [ad hs] at hty
   obtain ⟨e,hu⟩:∃ e,C.P.underlying t=some (.slice e):=by
    grind [kh]
   obtain ⟨cap,_,_,hv⟩:=(hx▸h.eM hlo (by rw [hx];simp) (by rw [hx];rfl)).Q7
   refine .quiet h (hrun (.int .i64 n) ?_) rfl (.i _ _)
   simp [Builtin.len_,run_underlying hu,hv,goInt]
 ·split at he
  ·cases he
  ·rename_i hs
   obtain ⟨q,hq,he⟩:=ah.1 he
   obtain rfl:=aa he
   rw [ad hs] at hty
   obtain ⟨e,hu⟩:∃ e,C.P.underlying t=some (.slice e):=by
    grind [kh]
   obtain ⟨A,cap,hv,_⟩:=h.len hlo hq
   refine .quiet h (hrun (.int .i64 q.2.length) ?_) rfl (.i _ _)
   simp [Builtin.len_,run_underlying hu,hv,goInt]
theorem N7(h:au C st a w σ){y:Option Operand}{x:Option ba}{dflt n cap:Nat}{code:BoundsCode}(hl:xl y x=true)(hb:oB st x dflt=some n)(hn:n≤cap) :
  (match y.map a.eval with
   | some v=>Instr.sliceBound v cap code
   | none=>pure dflt:Sem Nat).run C.P w= .ok n w:=by
 cases y with
 | none=>
  cases x with
  | none=>obtain rfl:=aa hb;rfl
  | some x=>simp [xl] at hl
 | some y=>
  cases x with
  | none=>simp [xl] at hl
  | some x=>
   have hl':bK y x=true:=hl
   obtain ⟨k,m,hi,hm0,rfl⟩:=C5 (x:=st.ev x) hb
   have hv:=(hi▸h.eM hl' (by rw [hi];simp) (by rw [hi];rfl)).mK
   simp_all [Instr.sliceBound,asIntOf]
theorem zt(h:au C st a w σ){lo' hi':Option Operand}{lo hi:Option ba}{i j len cap:Nat}(sl:Bool)(hlo:xl lo' lo=true)(hhi:xl hi' hi=true)
  (hi0:oB st lo 0=some i) (hj0:oB st hi len=some j) (hij:i≤j) (hjc:j≤cap) :
  (Instr.sliceBounds sl len cap (lo'.map a.eval) (hi'.map a.eval) none).run C.P w= .ok (i,j,cap) w:=by
 have h1:=N7 h (cap:=cap) (code:=if sl then .sliceAcap else .sliceAlen) hhi hj0 hjc
 have h2:=N7 h (cap:=j) (code:=.sliceB) hlo hi0 hij
 unfold Instr.sliceBounds
 cases hi' with
 | none=>
  cases lo' with
  | none=>simp_all
  | some y=>simp_all
 | some z=>
  cases lo' with
  | none=>simp_all
  | some y=>simp_all
theorem Q9{P:Program}{t:TypeId}(h:xX P t=true):P.underlying t=some .string:=by
 grind [xX]
theorem Nn{P:Program}{t e:TypeId}(h:kh P t=some e):P.underlying t=some (.slice e):=by
 grind [kh]
theorem abL{t sz:Nat}{x:ba}{lo hi:Option ba}(h:au C st a w σ)(hl:bC C.P (.sl t sz x lo hi) o.op=true)(he:execOp R Ω C.E st d (.sl t sz x lo hi)=some r) :
  eo C o d a w σ r.2 r.1:=by
 obtain ⟨ty,x',lo',hi',hop,hlx,hlo,hhi,hty⟩:∃ ty x' lo' hi',o.op= .slice ty x' lo' hi' none∧bK x' x=true∧xl lo' lo=true∧xl hi' hi=true∧
   (if t=0 then xX C.P ty else kh C.P ty==some t&&sized C.P t sz)=true:=by
  simp only [bC] at hl;split at hl
  ·rename_i ty x' lo' hi' hy
   simp only [aA] at hl
   exact ⟨_,_,_,_,hy,hl.1.1.1,hl.1.1.2,hl.1.2,hl.2⟩
  ·cases hl
 have hslice:∀ A n cap i j,a.eval x'= .slice A n cap→oB st lo 0=some i→oB st hi n=some j→i≤j→j≤cap→t≠0→
   C.P.cellsOf t=sz∧(Go.execOp a.eval o).run C.P w= .ok (.value (.slice (if cap=i then A else A.map (·.add (i*C.P.cellsOf t))) (j - i) (cap - i))) w:=by
  intro A n cap i j hv hi0 hj0 hij hjc ht
  rw [ad ht] at hty
  simp only [aA,cS] at hty
  obtain ⟨hinfo,hcells,hpos⟩:=og hty.2
  have hu:=Nn hty.1
  have hb:=zt h (len:=n) (cap:=cap) true hlo hhi hi0 hj0 hij hjc
  refine ⟨hcells,?_⟩
  unfold Go.execOp
  simp only [hop,Instr.sliceAt,Instr.slice,hv,Sem.run_bind,run_underlying hu,Result.andThen_ok,hb,Option.map_none,jM hinfo,Sem.run_pure]
 simp only [execOp] at he
 split at he
 ·rename_i l hx
  obtain ⟨i,hi0,he⟩:=ah.1 he
  obtain ⟨j,hj0,he⟩:=ah.1 he
  split at he
  ·rename_i hc
   simp only [aA,cS,df] at hc
   obtain ⟨⟨ht0,hij⟩,hjl⟩:=hc
   obtain rfl:=aa he
   have hv:=(hx▸h.eM hlx (by rw [hx];simp) (by rw [hx];rfl)).Eb
   have hu:=Q9 (by rw [ab ht0] at hty;exact hty)
   have hb:=zt h (len:=l.length) (cap:=l.length) false hlo hhi hi0 hj0 hij hjl
   refine .quiet h (cv:=.string ⟨((l.take j).drop i).toArray⟩) ?_ rfl (.s _)
   simp_all [Go.execOp,Instr.sliceAt,Instr.slice,run_underlying,Bn,Kd]
  ·cases he
 ·rename_i t' es hx
  obtain ⟨i,hi0,he⟩:=ah.1 he
  obtain ⟨j,hj0,he⟩:=ah.1 he
  split at he
  ·rename_i hc
   simp only [aA,qj,df] at hc
   obtain ⟨⟨⟨ht,hall⟩,hij⟩,hjl⟩:=hc
   obtain rfl:=aa he
   obtain ⟨A,cap,hv,hes⟩:=(hx▸h.eM hlx (by rw [hx];simp) (by rw [hx];rfl)).K3
   have hjc:j≤cap:=by
    rcases hes with hes | ⟨_,_,_,_,_,_,_,_,_,_,_,_,_,_,_,hcap,_⟩
    ·grind
    ·omega
   obtain ⟨hcells,hrun⟩:=hslice A _ cap i j hv hi0 hj0 hij hjc ht
   refine .quiet h hrun rfl ?_
   have hlen:((es.take j).drop i).length=j - i:=by simp;omega
   by_cases hji:j=i
   ·subst hji
    have:(es.take j).drop j=[]:=by grind
    rw [this,Nat.sub_self]
    exact .lnil _ _ _
   ·rcases hes with hes | ⟨g,b,cs,T,fz,sz',rfl,hI,hh,ht',hsz',hnc',hsize,hp,h1,hcap,hmax,hcc⟩
    ·grind
    ·have hzz:C.P.cellsOf t=sz':=by
      have hm:es[i]? =some (es[i]'(by omega)):=aB _
      have:=aL hm
      rw [hcells,←hnc' _ this]
      have:=bH.1 hall _ this
      grind
     rw [ad (by omega),hzz,←hlen]
     simp only [gv,add_lit]
     have hsub:∀ e∈(es.take j).drop i,e∈es:=by grind [List.mem_of_mem_take]
     refine VR.l t' _ g (b+i*sz') (cap - i) cs T fz sz' hI hh ht' hsz' (fun e he=>hnc' e (hsub e he)) ?_ (fun e he=>hp e (hsub e he)) (fun e he=>h1 e (hsub e he)) (by rw [hlen];omega) (by omega) fun k e m c hk hm=>?_
     ·rw [hlen]
      have:i*sz'+(j - i)*sz'≤es.length*sz':=by rw [←da];exact fv _ (by omega)
      omega
     ·have hk':es[i+k]? =some e:=by
       simp_all [eV]
      have:=hcc (i+k) e m c hk' hm
      rwa [da,←qa] at this
  ·cases he
 ·rename_i pl hx
  obtain ⟨⟨t',es⟩,hrow,he⟩:=ah.1 he
  obtain ⟨i,hi0,he⟩:=ah.1 he
  obtain ⟨j,hj0,he⟩:=ah.1 he
  split at he
  ·rename_i hc
   simp only [aA,qj,cS,df] at hc
   obtain ⟨⟨⟨ht,htt⟩,hij⟩,hjl⟩:=hc
   obtain rfl:=aa he
   subst htt
   obtain ⟨m,rfl,hm⟩:=dR hx rfl hlx
   obtain ⟨A,cap,hpv,hle⟩:=h.GU hrow
   have hv:a.eval x'= .slice A es.length cap:=((hm▸h.slot hlx) (by rw [hrow];rfl)).trans hpv
   obtain ⟨hcells,hrun⟩:=hslice A _ cap i j hv hi0 hj0 hij (by omega) ht
   refine .xY h hrun (fun _ _ e=>by cases e) fun dd=>?_
   intro t2 es2 h2 _
   obtain ⟨rfl,rfl⟩:t'=t2∧es=es2:=by grind
   grind
  ·cases he
 ·cases he
end
variable [bJ]
section
variable {C:Cx}{st:St}{a:Act}{w:World}{σ:Sp}{o:Oper}{d:Option Nat}{R:Rec}{Ω:du}{r:AV×St}
theorem VR.Ix{I:Nat→Prop}{κ:Key→Nat}{c:AV}{v:Value}(h:VR w I κ c v)(hc:c.one=true):v.oneCell'=true:=by
 cases h<;>first | rfl | (simp [AV.one] at hc)
theorem VR.cells{I:Nat→Prop}{κ:Key→Nat}{y:AV}{v:Value}(h:VR w I κ y v)(h1:∀ c∈y.cl,c.one=true) :
  y.cl.length=v.cells.size∧∀ (m:Nat)(c:AV),y.cl[m]? =some c→VR w I κ c (v.cells.getD m undef):=by
 by_cases ha:∃ cs,y= .a cs
 ·obtain ⟨cs,rfl⟩:=ha
  obtain ⟨vs,rfl,hl,_,hc⟩:=h.VL
  exact ⟨hl,hc⟩
 ·have hcl:y.cl=[y]:=by cases y<;>first | rfl | exact absurd ⟨_,rfl⟩ ha
  have hv:v.cells=#[v]:=by
   have h2:=h1 y (by rw [hcl];simp)
   cases h<;>first | rfl | (simp [AV.one] at h2)
  rw [hcl,hv]
  refine ⟨rfl,fun m c hm=>?_⟩
  cases m with
  | zero=>
   have e:y=c:=by simpa using hm
   subst e
   simpa using h
  | succ m=>simp at hm
structure CA(w:World)(I:Nat→Prop)(κ:Key→Nat)(cs:List AV)(vs:Array Value):Prop where
 len:cs.length=vs.size
 one:∀ c∈cs,c.one=true∨c= .u
 cell:∀ (m:Nat)(c:AV),cs[m]? =some c→VR w I κ c (vs.getD m undef)
theorem iW(cs:List AV)(off:Nat)(ys:List AV)(h:off+ys.length≤cs.length)(i:Nat) :
  (putCells cs off ys)[i]? =if off≤i∧i<off+ys.length then ys[i - off]? else cs[i]? :=by
 unfold putCells
 rw [lO,kv]
 have h1:(cs.take off).length=off:=by simp;omega
 rw [h1]
 by_cases hi:i<off
 ·rw [ab hi,ad (by omega),eV,ab hi]
 ·rw [ad hi,kv]
  by_cases hj:i<off+ys.length
  ·rw [ab (by omega),ab (by omega)]
  ·rw [ad (by omega),ad (by omega),gx]
   congr 1
   omega
theorem mL(cs:List AV)(off:Nat)(ys:List AV)(h:off+ys.length≤cs.length):(putCells cs off ys).length=cs.length:=by
 unfold putCells;simp;omega
theorem Bo(off:Nat):∀ (l:List (Value×Nat))(cells:Array Value),(∀ x∈l,off+x.2<cells.size)→
  (l.foldl (fun cs x=>cs.setIfInBounds (off+x.2) x.1) cells).size=cells.size
 | [],_,_=>rfl
 | x::l,cells,h=>by
  simp only [qb]
  rw [Bo off l _ (fun y hy=>by simpa using h y (by simp [hy])),Array.size_setIfInBounds]
theorem C7(off:Nat)(us:List Value):∀ (k:Nat)(cells:Array Value),off+k+us.length≤cells.size→
  ∀ i,((us.zipIdx k).foldl (fun cs x=>cs.setIfInBounds (off+x.2) x.1) cells)[i]? =
   if off+k≤i∧i<off+k+us.length then us[i - off - k]? else cells[i]? :=by
 induction us with
 | nil=>
  intro k cells _ i
  rw [ad (by simp only [ig];omega)]
  rfl
 | cons u us ih=>
  intro k cells h i
  simp only [bu] at h
  simp only [List.zipIdx_cons,qb]
  rw [ih (k+1) _ (by simp;omega) i]
  simp only [bu]
  by_cases h1:i=off+k
  ·subst h1
   rw [ad (by omega),ab (by omega)]
   have:off+k<cells.size:=by omega
   simp [this]
  ·by_cases h2:off+(k+1)≤i∧i<off+(k+1)+us.length
   ·rw [ab h2,ab (by omega)]
    have e:i - off - k=(i - off - (k+1))+1:=by omega
    rw [e,Cw]
   ·rw [ad h2,ad (by omega)]
    rw [tD,ad (by omega)]
theorem CA.put{I:Nat→Prop}{κ:Key→Nat}{cs:List AV}{vs:Array Value}(h:CA w I κ cs vs){off:Nat}{ys:List AV}{us:List Value}(hl:ys.length=us.length)
  (ho:off+ys.length≤cs.length) (h1:∀ c∈ys,c.one=true∨c= .u) (hc:∀ (m:Nat)(c:AV),ys[m]? =some c→VR w I κ c (us[m]?.getD undef)) :
  CA w I κ (putCells cs off ys) ((us.zipIdx).foldl (fun cs x=>cs.setIfInBounds (off+x.2) x.1) vs):=by
 have hsz:((us.zipIdx).foldl (fun cs x=>cs.setIfInBounds (off+x.2) x.1) vs).size=vs.size:=Bo off _ _ fun x hx=>by
  have:=Cy hx
  have:=h.len
  omega
 refine ⟨by rw [mL _ _ _ ho,hsz,h.len],fun c hm=>?_,fun m c hm=>?_⟩
 ·unfold putCells at hm
  rcases bU.1 hm with hm | hm
  ·rcases bU.1 hm with hm | hm
   ·exact h.one c (eI hm)
   ·exact h1 c hm
  ·exact h.one c (fu hm)
 ·rw [iW _ _ _ ho] at hm
  have hf:=C7 off us 0 vs (by have:=h.len;omega) m
  simp only [lR,qn,←hl] at hf
  rw [bn,hf]
  by_cases hi:off≤m∧m<off+ys.length
  ·rw [ab hi] at hm ⊢
   exact hc _ c hm
  ·rw [ad hi] at hm ⊢
   rw [←bn]
   exact h.cell m c hm
theorem run_places(P:Program)(w:World):∀ (fs:List Field),(∀ f∈fs,(P.info? f.type).isSome=true)→
  (fs.mapM (fun f=>do pure (f.offset,←sizeOf f.type):Field→Sem (Nat×Nat))).run P w= .ok (fs.map fun f=>(f.offset,P.cellsOf f.type)) w
 | [],_=>rfl
 | f::fs,h=>by
  rw [vF]
  simp only [Sem.run_bind,jM (h f (by simp)),Result.andThen_ok,Sem.run_pure,run_places P w fs (fun g hg=>h g (by simp [hg])),bZ]
theorem LF(h:au C st a w σ){t:TypeId}{fs:Array Field}(hu:C.P.underlying t=some (.struct fs)) :
  ∀ (ps:List (Nat×Operand))(qs:List (Nat×Nat×ba))(cs:List AV)(vs:Array Value),uY C.P t ps qs=true→CA w σ.I σ.κ cs vs→
   (∀ f∈qs,(st.ev f.2.2).copy=true∧(st.ev f.2.2).nc=f.2.1∧(∀ c∈(st.ev f.2.2).cl,c.one=true)∧f.1+f.2.1≤cs.length)→
   ∃ vs',Instr.fill (fun i=>((fs.toList.map fun f=>(f.offset,C.P.cellsOf f.type)).toArray)[i]?) vs (ps.map fun p=>(p.1,a.eval p.2))=some vs'∧
    CA w σ.I σ.κ (qs.foldl (fun cs f=>putCells cs f.1 (st.ev f.2.2).cl) cs) vs'
 | [],[],cs,vs,_,hca,_=>⟨vs,rfl,hca⟩
 | (i,y)::ps,(off,sz,x)::qs,cs,vs,hl,hca,hq=>by
  simp only [uY,aA] at hl
  obtain ⟨⟨hf,hlo⟩,hrest⟩:=hl
  obtain ⟨hcp,hnc,h1,hle⟩:=hq (off,sz,x) (by simp)
  simp only at hcp hnc h1 hle
  split at hf
  ·rename_i f hfo
   simp only [aA,cS] at hf
   obtain ⟨rfl,hsz⟩:=hf
   obtain ⟨hinfo,hcells,hpos⟩:=og hsz
   obtain ⟨fs',hu',hfi⟩:=zX hfo
   obtain rfl:fs=fs':=by rw [hu] at hu';simpa using hu'
   have hv:=h.uG hlo hcp
   obtain ⟨hcl,hcc⟩:=hv.cells h1
   have hnc':(st.ev x).cl.length=sz:=hnc
   have hca':CA w σ.I σ.κ (putCells cs f.offset (st.ev x).cl) (((a.eval y).cells.zipIdx).foldl (fun cs x=>cs.setIfInBounds (f.offset+x.2) x.1) vs):=by
    have:=hca.put (off:=f.offset) (ys:=(st.ev x).cl) (us:=(a.eval y).cells.toList) (by simpa using hcl) (by omega) (fun c hc=>.inl (h1 c hc)) (fun m c hm=>by simpa [bn] using hcc m c hm)
    rwa [←Array.toList_zipIdx,Array.foldl_toList] at this
   have hlen:=mL cs f.offset (st.ev x).cl (by omega)
   obtain ⟨vs',hfill,hca''⟩:=LF h hu ps qs _ _ hrest hca' (fun g hg=>by rw [hlen];exact hq g (by simp [hg]))
   refine ⟨vs',?_,hca''⟩
   have hfl:((fs.toList.map fun f=>(f.offset,C.P.cellsOf f.type)).toArray)[i]? =some (f.offset,sz):=by
    have hfi':fs.toList[i]? =some f:=by simpa using hfi
    simp [hfi,hcells]
   have hcs:(a.eval y).cells.size=sz:=by omega
   have hlt:¬(f.offset+sz>vs.size):=by have:=hca.len;omega
   simp only [bZ,Instr.fill,hfl,hcs,ne_eq,qo,qc,js,hlt,bB,aM,hfill]
  ·cases hf
 | [],_::_,_,_,hl,_,_=>by simp [uY] at hl
 | _::_,[],_,_,hl,_,_=>by simp [uY] at hl
theorem xn{P:Program}{t:TypeId}{v:Value}(h:zeroOf P t=some v):∃ i,P.info? t=some i∧i.zero=some v:=by
 unfold zeroOf at h
 exact ah.1 h
theorem LG{P:Program}{t:TypeId}{v:Value}(h:zeroOf P t=some v)(w:World):(zeroValue t).run P w= .ok v w:=by
 obtain ⟨i,hi,hz⟩:=xn h
 simp [zeroValue,typeInfo,hi,hz]
theorem Ke{cs ys:List AV}{off:Nat}{c:AV}(h:c∈putCells cs off ys):c∈cs∨c∈ys:=by
 unfold putCells at h
 rcases bU.1 h with h | h
 ·rcases bU.1 h with h | h
  ·exact .inl (eI h)
  ·exact .inr h
 ·exact .inl (fu h)
theorem LH:∀ (qs:List (Nat×Nat×ba))(cs:List AV),(∀ c∈cs,c.one=true)→(∀ f∈qs,∀ c∈(st.ev f.2.2).cl,c.one=true)→∀ c∈qs.foldl (fun cs f=>putCells cs f.1 (st.ev f.2.2).cl) cs,c.one=true
 | [],_,h,_=>h
 | q::qs,cs,h,hq=>LH qs _ (fun c hc=>(Ke hc).elim (h c) (hq q (by simp) c)) fun f hf=>hq f (by simp [hf])
theorem abM{zs:List AV}{fs:List (Nat×Nat×ba)}(h:au C st a w σ)(hl:bC C.P (.bd zs fs) o.op=true)(he:execOp R Ω C.E st d (.bd zs fs)=some r) :
  eo C o d a w σ r.2 r.1:=by
 simp only [bC] at hl
 split at hl
 ·rename_i t parts hop
  simp only [aA] at hl
  obtain ⟨⟨hz,hparts⟩,hst⟩:=hl
  split at hz
  ·rename_i v hzv
   simp only [aA] at hz
   split at hst
   ·rename_i fds hu
    simp only [execOp] at he
    split at he
    ·rename_i hall
     obtain rfl:=aa he
     have hall':∀ f∈fs,(st.ev f.2.2).copy=true∧(st.ev f.2.2).nc=f.2.1∧(∀ c∈(st.ev f.2.2).cl,c.one=true)∧f.1+f.2.1≤zs.length:=by
      intro f hf
      have:=bH.1 hall f hf
      simp only [aA,cS,df] at this
      exact ⟨this.1.1.1,this.1.1.2,fun c hc=>bH.1 this.1.2 c hc,this.2⟩
     obtain ⟨hlen,hcell⟩:=uW (w:=w) (I:=σ.I) (κ:=σ.κ) v.cells.toList zs hz.1
     have hca:CA w σ.I σ.κ zs v.cells:=⟨by simpa using hlen.symm,fun c hc=>.inl (bH.1 hz.2 c hc),fun m c hm=>by simpa [bn] using (hcell m c hm).1⟩
     obtain ⟨vs',hfill,hca'⟩:=LF h hu parts.toList fs zs v.cells hparts hca hall'
     have hinfo:∀ f∈fds.toList,(C.P.info? f.type).isSome=true:=fun f hf=>by
      rw [yP] at hst
      exact hst f (by simpa using hf)
     have hplaces:=run_places C.P w fds.toList hinfo
     have hrun:(Go.execOp a.eval o).run C.P w= .ok (.value (.agg vs')) w:=by
      unfold Go.execOp
      simp only [hop,Instr.build,Sem.run_bind,LG hzv,Result.andThen_ok,run_underlying hu,Sem.run_pure]
      rw [Array.mapM_eq_mapM_toList]
      simp only [Sem.run_map,hplaces,Result.andThen_ok,Array.toList_map,hfill,Sem.run_pure]
     refine .jU hrun ⟨.refl _ _ _,h,fun _ _=>lg (.a _ _ hca'.len (LH fs zs (fun c hc=>bH.1 hz.2 c hc) fun f hf=>(hall' f hf).2.2.1) hca'.cell),fun _ _ _ _ e=>by cases e⟩
    ·cases he
   ·cases hst
  ·cases hz
 ·cases hl
structure CG(w:World)(σ:Sp)(a:Act)(acc:List AV×List (Nat×Nat))(vs:Array Value):Prop where
 len:acc.1.length=vs.size
 one:∀ c∈acc.1,c.one=true∨c= .u
 cell:∀ (m:Nat)(c:AV),acc.1[m]? =some c→VR w σ.I σ.κ c (vs.getD m undef)
 row:∀ q∈acc.2,q.1<vs.size∧vs.getD q.1 undef=a.tmps.getD q.2 undef
theorem CG.put{acc:List AV×List (Nat×Nat)}{rs:List (Nat×Nat)}{vs:Array Value}(h:CG w σ a acc vs){off:Nat}{ys:List AV}{us:List Value}(hl:ys.length=us.length)
  (ho:off+ys.length≤acc.1.length) (h1:∀ c∈ys,c.one=true∨c= .u) (hc:∀ (m:Nat)(c:AV),ys[m]? =some c→VR w σ.I σ.κ c (us[m]?.getD undef))
  (hr:∀ q∈rs,(q∈acc.2∧¬(off≤q.1∧q.1<off+ys.length))∨(q.1=off∧us[0]? =some (a.tmps.getD q.2 undef))) :
  CG w σ a (putCells acc.1 off ys,rs) ((us.zipIdx).foldl (fun cs x=>cs.setIfInBounds (off+x.2) x.1) vs):=by
 have hca:CA w σ.I σ.κ acc.1 vs:=⟨h.len,h.one,h.cell⟩
 have hp:=hca.put hl ho h1 hc
 refine ⟨hp.len,hp.one,hp.cell,fun q hq=>?_⟩
 have hsz:((us.zipIdx).foldl (fun cs x=>cs.setIfInBounds (off+x.2) x.1) vs).size=vs.size:=Bo off _ _ fun x hx=>by
  have:=Cy hx
  have:=h.len
  omega
 have hf:=C7 off us 0 vs (by have:=h.len;omega) q.1
 simp only [lR,qn,←hl] at hf
 rw [hsz,bn,hf]
 rcases hr q hq with ⟨h2,h3⟩ | ⟨h2,h3⟩
 ·rw [ad h3,←bn]
  exact h.row q h2
 ·have hlt:0<us.length:=(dh.1 h3).1
  rw [h2,ab (by omega),Nat.sub_self,h3]
  exact ⟨by have:=h.len;omega,rfl⟩
end
end Go.Proofs.YtkkkkondjclcnaaGreat.A
