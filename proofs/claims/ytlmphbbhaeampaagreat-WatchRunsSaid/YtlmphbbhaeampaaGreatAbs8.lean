/- Addresses of elements, sums and comparisons, lengths, pieces: the model does what the abstract run says. -/
import Derived.Test.YtlmphbbhaeampaaGreatAbs4
set_option linter.all false
namespace Go.Proofs.YtlmphbbhaeampaaGreat.A
open Go
variable [cN]
section
variable {C:Cx}{st:St}{a:Act}{w:World}{σ:Sp}{o:Oper}{d:Option Nat}{R:Rec}{Ω:ej}{r:AV×St}
theorem Gm{x:AV}{j:Nat}(h:sV x=some j):∃ k n,x= .i k n∧0≤n∧n.toNat=j:=by
 cases x<;>simp [sV] at h
 grind
theorem og{P:Program}{t sz:Nat}(h:sized P t sz=true):(P.info? t).isSome=true∧P.cellsOf t=sz∧0<sz:=by
 grind [sized]
theorem vV{sz:Nat}{e:Option AV}{f:AV→AV}(h:elemAt sz st e f=some r):∃ x,e=some x∧x.nc=sz∧r=(f x,st):=by
 grind [elemAt,Option.bind_eq_some_iff]
theorem eh{α:Type}{l:List α}{i:Nat}{x:α}(h:l[i]? =some x):i<l.length:=by
 grind
theorem aha{sz:Nat}{arr:Option Nat}{x i:bY}(h:aE C st a w σ)(hl:cE C.P (.ia sz arr x i) o.op=true)(he:execOp R Ω C.E st d (.ia sz arr x i)=some r) :
  e9 C o d a w σ r.2 r.1:=by
 obtain ⟨t,x',i',S,J,bp,O⟩:∃ t x' i',o.op= .indexAddr t x' i'∧cJ x' x=true∧cJ i' i=true∧
   ((arr=none∧∃ e,C.P.underlying t=some (.slice e)∧sized C.P e sz=true)∨∃ n e,arr=some n∧C.P.underlying t=some (.array n e)∧sized C.P e sz=true):=by
  simp only [cE] at hl;grind
 simp only [execOp] at he
 obtain ⟨j,hj,he⟩:=au.1 he
 obtain ⟨k,n,hi,a7,rfl⟩:=Gm hj
 have a5:=(hi▸h.fS bp (by rw [hi];simp) (by rw [hi];rfl)).oe
 rcases O with ⟨rfl,e,hu,U⟩ | ⟨len,e,rfl,hu,U⟩
 ·obtain ⟨G,D,ad⟩:=og U
  have B:∀ g b len cap,a.eval x'= .slice (some ⟨g,b,none⟩) len cap→n.toNat<len→
    (Go.execOp a.eval o).run C.P w= .ok (.value (.pointer (some ⟨g,b+n.toNat*sz,none⟩))) w:=by
   intro g b len cap hv ab
   unfold Go.execOp
   have:0≤n∧n<(len:Int):=⟨a7,by omega⟩
   simp [S,hv,a5,Instr.indexAt,asIntOf,run_underlying hu,this,mQ G,D,add_lit]
  simp only at he
  split at he
  ·rename_i t' es hx
   obtain ⟨e',ac,Y,rfl⟩:=vV he
   have ab:=eh ac
   obtain ⟨A,cap,hv,am⟩:=(hx▸h.fS J (by rw [hx];simp) (by rw [hx];rfl)).OP
   rcases am with am | ⟨g,b,cs,T,fz,sz',rfl,hI,hh,ht,aI,Q,aL,hp,h1,aS,a2,hc⟩
   ·grind
   ·have hm:=cm ac
    obtain rfl:sz=sz':=Y.symm.trans (Q e' hm)
    refine .quiet h (B _ _ _ _ hv ab) rfl ?_
    refine VR.e e' 0 g (b+n.toNat*sz) cs T fz hI hh (hp e' hm) ?_ (h1 e' hm) (by grind)
    rw [Y]
    have:(n.toNat+1)*sz≤es.length*sz:=iz _ (by omega)
    grind
  ·rename_i t' es hx
   cases x with
   | c z=>cases he
   | t m=>
    simp only at he
    obtain ⟨e',ac,Y,rfl⟩:=vV he
    have ab:=eh ac
    have aX:aQ st.fr m= .o t' es:=hx
    have F:st.rowAt C.E.dp (.s m)=some (t',es):=by simp [St.rowAt,aX]
    obtain ⟨g,cap,cs,aw,hR⟩:=h.Ew F (fun e=>by grind)
    have hv:a.eval x'= .slice (some ⟨g,0,none⟩) es.length cap:=by rw [AG J];exact aw
    refine .AY h (B _ _ _ _ hv ab) (fun _ _ e=>by cases e) fun dd=>?_
    intro t2 es2 h2 a8
    grind
  ·rename_i pl hx
   obtain ⟨⟨t',es⟩,F,he⟩:=au.1 he
   obtain ⟨e',ac,Y,rfl⟩:=vV he
   have ab:=eh ac
   obtain ⟨m,rfl,hm⟩:=eM hx rfl J
   have hs:=hm▸h.slot J
   have hv:a.eval x'=ic w σ a pl:=hs (by rw [F];rfl)
   obtain ⟨g,cap,cs,aw,hR⟩:=h.Ew F (fun e=>by grind)
   refine .AY h (B _ _ _ _ (hv.trans aw) ab) (fun _ _ e=>by cases e) fun dd=>?_
   intro t2 es2 h2 a8
   grind
  ·rename_i pl lo len hx
   split at he
   ·rename_i aN
    obtain ⟨⟨t',es⟩,F,he⟩:=au.1 he
    split at he
    ·rename_i aU
     obtain ⟨e',ac,Y,rfl⟩:=vV he
     simp only at aU ac
     have ab:=eh ac
     obtain ⟨m,rfl,hm⟩:=eM hx rfl J
     obtain ⟨A,n',cap,aw,hv⟩:=(hm▸h.slot J) t' es F aU
     obtain ⟨g,cap',cs,a0,hR⟩:=h.Ew F (fun e=>by grind)
     obtain ⟨rfl,rfl,rfl⟩:A=some ⟨g,0,none⟩∧n'=es.length∧cap=cap':=by
      grind
     have bC:=hR.ecap
     have aZ:C.P.cellsOf t'=sz:=(hR.nc e' (cm ac)).symm.trans Y
     rw [ah (by omega),aZ] at hv
     simp only [kJ,add_lit,jL] at hv
     refine .AY h (B _ _ _ _ hv aN) (fun _ _ e=>by cases e) fun dd=>?_
     intro t2 es2 h2 a8
     grind [Nat.add_mul]
    ·cases he
   ·cases he
  ·rename_i k b m s hx
   split at he
   ·rename_i hc
    obtain rfl:=aq he
    obtain ⟨cap,_,_,hv⟩:=(hx▸h.fS J (by rw [hx];simp) (by rw [hx];rfl)).Vp
    exact .quiet h (B _ _ _ _ hv hc.1) rfl (.p _ _)
   ·cases he
  ·cases he
 ·obtain ⟨G,D,ad⟩:=og U
  simp only at he
  split at he
  ·rename_i ab
   have B:∀ g b,a.eval x'= .pointer (some ⟨g,b,none⟩)→(Go.execOp a.eval o).run C.P w= .ok (.value (.pointer (some ⟨g,b+n.toNat*sz,none⟩))) w:=by
    intro g b hv
    unfold Go.execOp
    have:0≤n∧n<(len:Int):=⟨a7,by omega⟩
    simp [S,hv,a5,Instr.indexAt,asIntOf,run_underlying hu,this,mQ G,D,add_lit,Instr.sureAddr]
   split at he
   ·rename_i k b hx
    obtain rfl:=aq he
    have hv:=(hx▸h.fS J (by rw [hx];simp) (by rw [hx];rfl)).Ak
    exact .quiet h (B _ _ hv) rfl (.p _ _)
   ·rename_i z b hx
    obtain rfl:=aq he
    obtain ⟨g,b',cs,T,fz,hv,hI,hh,bn,hs,h1,hc⟩:=(hx▸h.fS J (by rw [hx];simp) (by rw [hx];rfl)).OO
    exact .quiet h (by grind) rfl (.e z _ g b' cs T fz hI hh bn hs h1 hc)
   ·cases he
  ·cases he
theorem O5(l m:List UInt8):(⟨l.toArray⟩:ByteArray)++⟨m.toArray⟩=⟨(l++m).toArray⟩:=by
 apply Go.WideShapes.bytes_inj
 simp
theorem Ex(l:List UInt8):(⟨l.toArray⟩:ByteArray).size=l.length:=by simp [ByteArray.size]
theorem Kl(l:List UInt8):(⟨l.toArray⟩:ByteArray).toList=l:=by simp [ByteArray.toList_eq]
theorem N5(l:List UInt8)(i j:Nat):(⟨l.toArray⟩:ByteArray).extract i j=⟨((l.take j).drop i).toArray⟩:=by
 apply Go.WideShapes.bytes_inj
 simp [ByteArray.data_extract,List.drop_take]
theorem Rh(op:BinOp)(t:TypeId)(x y:Operand)(k k':IntKind)(m n:Int):eqGuard op t x y (.int k m) (.int k' n)=pure ():=by
 simp_all [eqGuard]
theorem Gn(op:BinOp)(t:TypeId)(x y:Operand)(m n:Bool):eqGuard op t x y (.bool m) (.bool n)=pure ():=by
 simp_all [eqGuard]
theorem xO(op:BinOp)(t:TypeId)(x y:Operand)(m n:ByteArray):eqGuard op t x y (.string m) (.string n)=pure ():=by
 simp_all [eqGuard]
theorem Km{P:Program}{I:Nat→Prop}{κ:Key→Nat}(dd:Nat)(vs ws:Array Value):∀ (fs:List Field)(i:Nat)(ks:List Nat)(xs ys:List AV)(b:Bool),sZ P i ks fs=true→kl ks xs ys=some b→
  (∀ (j:Nat)(c:AV),xs[j]? =some c→i+j<vs.size∧VR w I κ c (vs.getD (i+j) undef))→(∀ (j:Nat)(c:AV),ys[j]? =some c→i+j<ws.size∧VR w I κ c (ws.getD (i+j) undef))→
  (Op.eqFields (dd+1) vs ws fs).run P w= .ok b w
 | [],i,ks,xs,ys,b,hf,he,hx,hy=>by
  cases ks with
  | nil=>
   cases xs<;>cases ys<;>simp only [kl] at he<;>try contradiction
   obtain rfl:=aq he
   simp [Op.eqFields]
  | cons k ks=>simp [sZ] at hf
 | f::fs,i,ks,xs,ys,b,hf,he,hx,hy=>by
  cases ks with
  | nil=>simp [sZ] at hf
  | cons k ks=>
   simp only [sZ,aY,uW,ne_eq,eB] at hf
   obtain ⟨⟨⟨⟨h1,h2⟩,h3⟩,h4⟩,h5⟩:=hf
   cases xs with
   | nil=>grind [kl]
   | cons x xs=>
   cases ys with
   | nil=>grind [kl]
   | cons y ys=>
   obtain ⟨sx,vx⟩:=hx 0 x rfl
   obtain ⟨sy,vy⟩:=hy 0 y rfl
   rw [p8] at sx sy vx vy
   rw [iy,p9 sx] at vx
   rw [iy,p9 sy] at vy
   simp only [xn] at vx vy
   have p1:=run_part_plain (w:=w) h3 (p9 sx)
   have p2:=run_part_plain (w:=w) h3 (p9 sy)
   have aX:∀ (j:Nat)(c:AV),xs[j]? =some c→i+1+j<vs.size∧VR w I κ c (vs.getD (i+1+j) undef):=fun j c hc=>by
    have:=hx (j+1) c (by simpa using hc)
    grind
   have bc:∀ (j:Nat)(c:AV),ys[j]? =some c→i+1+j<ws.size∧VR w I κ c (ws.getD (i+1+j) undef):=fun j c hc=>by
    have:=hy (j+1) c (by simpa using hc)
    rwa [show i+(j+1)=i+1+j by omega] at this
   have step:∀ (q r:Bool),(Op.equalIn (dd+1) f.type vs[i] ws[i]).run P w= .ok q w→kl ks xs ys=some r→(q&&r)=b→(Op.eqFields (dd+1) vs ws (f::fs)).run P w= .ok b w:=by
    intro q r hq hr hb
    have ih:=Km dd vs ws fs (i+1) ks xs ys r h5 hr aX bc
    simp only [Op.eqFields,h1,ne_eq,BZ,aH,Sem.run_bind,h2,p1,p2,hq,Result.andThen_ok]
    cases q with
    | false=>
      obtain rfl:false=b:=hb
      simp
    | true=>
     obtain rfl:r=b:=hb
     simpa using ih
   unfold kl at he
   split at he
   ·grind
   ·rename_i aM aG aF
    obtain ⟨rfl,rfl⟩:=kK aM
    obtain ⟨rfl,rfl⟩:=kK aG
    obtain ⟨rfl,rfl⟩:=kK aF
    obtain ⟨r,hr,rfl⟩:=fi.1 he
    split at h4<;>try contradiction
    rename_i hu
    exact step _ r (by rw [vx.yG,vy.yG];grind [run_equalIn_bool']) hr rfl
   ·rename_i aM aG aF
    obtain ⟨rfl,rfl⟩:=kK aM
    obtain ⟨rfl,rfl⟩:=kK aG
    obtain ⟨rfl,rfl⟩:=kK aF
    split at he
    ·rename_i br
     subst br
     obtain ⟨r,hr,rfl⟩:=fi.1 he
     split at h4<;>try contradiction
     rename_i hu
     exact step _ r (by rw [vx.oe,vy.oe];grind [run_equalIn_int]) hr rfl
    ·cases he
   ·rename_i aM aG aF
    obtain ⟨rfl,rfl⟩:=kK aM
    obtain ⟨rfl,rfl⟩:=kK aG
    obtain ⟨rfl,rfl⟩:=kK aF
    obtain ⟨r,hr,rfl⟩:=fi.1 he
    split at h4<;>try contradiction
    rename_i hu
    refine step _ r ?_ hr rfl
    rw [vx.HK,vy.HK,run_equalIn_string w dd f.type _ _ hu]
    simp [ByteArray.toList_eq]
   ·cases he
theorem ahb{ks:List Nat}{ng:Bool}{x y:bY}(h:aE C st a w σ)(hl:cE C.P (.ae ks ng x y) o.op=true)(he:execOp R Ω C.E st d (.ae ks ng x y)=some r) :
  e9 C o d a w σ r.2 r.1:=by
 obtain ⟨t,x',y',t',op,S,a1,J,ax,az⟩:∃ t x' y' t' op,o.op= .binOp op t x' y' t'∧op=(if ng then BinOp.neq else .eql)∧cJ x' x=true∧cJ y' y=true∧Th C.P ks t=true:=by
  simp only [cE] at hl;grind
 simp only [execOp] at he
 split at he
 ·rename_i xs ys hx hy
  obtain ⟨q,hq,he⟩:=au.1 he
  obtain rfl:=aq he
  have ap:=hx▸h.fS J (by rw [hx];simp) (by rw [hx];rfl)
  have ao:=hy▸h.fS ax (by rw [hy];simp) (by rw [hy];rfl)
  generalize bf:a.eval x'=vx at ap
  generalize be:a.eval y'=vy at ao
  cases ap with | a _ vs sx _ cx=>
  cases ao with | a _ ws sy _ cy=>
  unfold Th at az
  split at az
  ·rename_i fs hu
   simp only [aY,Bool.not_eq_eq_eq_not,xq] at az
   obtain ⟨⟨f1,f2⟩,f3⟩:=az
   have aP:C.P.fieldsOf t=fs:=by simp [Program.fieldsOf,hu]
   have B:(Op.equal t (.agg vs) (.agg ws)).run C.P w= .ok q w:=by
    show (Op.equalIn (9999+1) t (.agg vs) (.agg ws)).run C.P w= .ok q w
    rw [run_equalIn_struct w 9999 t vs ws (by grind) f2,aP]
    exact Km 9998 vs ws fs.toList 0 ks xs ys q f1 hq
     (fun j c hc=>⟨by have:=(AN.1 hc).1;omega,by simpa using cx j c hc⟩)
     ((by grind))
   have ay:(eqGuard op t x' y' (.agg vs) (.agg ws)).run C.P w= .ok () w:=by
    simp_all [eqGuard]
   refine .quiet h (cv:=.bool (if ng then !q else q)) ?_ rfl (.b _)
   unfold Go.execOp
   subst a1
   cases ng<;>simp [S,bf,be,ay,Go.binOp,B]<;>simp_all
  ·cases az
 ·cases he
theorem ahc{op:BinOp}{bl:Bool}{x y:bY}(h:aE C st a w σ)(hl:cE C.P (.bo op bl x y) o.op=true)(he:execOp R Ω C.E st d (.bo op bl x y)=some r) :
  e9 C o d a w σ r.2 r.1:=by
 by_cases hm:op= .or
 ·
  subst hm
  obtain ⟨c,x',y',S,a4,aT,J,ax⟩:∃ c x' y',o.op= .call c∧c.callee= .builtin .max∧c.args.toList=[x',y']∧cJ x' x=true∧cJ y' y=true:=by
   simp only [cE] at hl;grind
  have aB:c.args=#[x',y']:=by grind
  simp only [execOp] at he
  obtain ⟨z,hz,he⟩:=au.1 he
  obtain rfl:=aq he
  unfold rp at hz
  split at hz
  ·rename_i k m k' n hx hy
   have ap:=(hx▸h.fS J (by rw [hx];simp) (by rw [hx];rfl)).oe
   have ao:=(hy▸h.fS ax (by rw [hy];simp) (by rw [hy];rfl)).oe
   split at hz
   ·obtain rfl:=aq hz
    refine .quiet h (cv:=.int k (if n>m then n else m)) ?_ rfl (.i _ _)
    simp_all [Go.execOp,run_max_int2,resolve,invoke,builtin]
   ·cases hz
  ·grind
  ·cases hz
  ·cases hz
 obtain ⟨t,x',y',t',S,J,ax,bE⟩:∃ t x' y' t',o.op= .binOp op t x' y' t'∧cJ x' x=true∧cJ y' y=true∧bl=L1 C.P t:=by
  simp only [cE] at hl;grind
 simp only [execOp] at he
 obtain ⟨z,hz,he⟩:=au.1 he
 obtain rfl:=aq he
 unfold rp at hz
 split at hz
 ·rename_i k m k' n hx hy
  have ap:=(hx▸h.fS J (by rw [hx];simp) (by rw [hx];rfl)).oe
  have ao:=(hy▸h.fS ax (by rw [hy];simp) (by rw [hy];rfl)).oe
  split at hz
  ·rename_i hk
   subst hk
   have key:∀ cv,(Go.binOp op t (.int k m) (.int k n)).run C.P w= .ok cv w→z.copy=true→VR w σ.I σ.κ z cv→e9 C o d a w σ st z:=by
    intro cv B hc hv
    refine .quiet h (cv:=cv) ?_ hc hv
    simp_all [Go.execOp,Rh]
   cases op<;>simp only [u6] at hz<;>first
    | exact absurd rfl hm
    | (cases hz;done)
    | (obtain rfl:=aq hz;exact key _ (by simp [Go.binOp,Op.intArith]) rfl (.i _ _))
    | (obtain rfl:=aq hz;exact key _ (by simp [Go.binOp,Op.intCmp]) rfl (.b _))
    | skip
   ·split at hz
    ·cases hz
    ·rename_i hn
     obtain rfl:=aq hz
     exact key _ (by simp [Go.binOp,Op.intDiv,hn]) rfl (.i _ _)
   ·split at hz
    ·cases hz
    ·rename_i hn
     obtain rfl:=aq hz
     exact key _ (by simp [Go.binOp,Op.intDiv,hn]) rfl (.i _ _)
  ·cases hz
 ·rename_i m n hx hy
  have ap:=(hx▸h.fS J (by rw [hx];simp) (by rw [hx];rfl)).yG
  have ao:=(hy▸h.fS ax (by rw [hy];simp) (by rw [hy];rfl)).yG
  split at hz
  ·rename_i hb
   have hu:C.P.underlying t=some .bool:=by
    grind [L1]
   have aA:=run_eql_bool (P:=C.P) w t m n hu
   have bD:(Go.binOp .neq t (.bool m) (.bool n)).run C.P w= .ok (.bool (!(m==n))) w:=by
    simp only [Go.binOp] at aA ⊢
    simp only [Sem.run_bind,Sem.run_pure] at aA ⊢
    cases hq:(Op.equal t (.bool m) (.bool n)).run C.P w with
    | ok x w'=>simp only [hq,Result.andThen_ok,Result.ok.injEq,Value.bool.injEq] at aA ⊢;exact ⟨by rw [aA.1],aA.2⟩
    | halt x w'=>simp [hq] at aA
   split at hz
   ·obtain rfl:=aq hz
    refine .quiet h (cv:=.bool (m==n)) ?_ rfl (.b _)
    unfold Go.execOp
    simp only [S,ap,ao,Gn,Sem.run_bind,Sem.run_pure,Result.andThen_ok,aA]
   ·obtain rfl:=aq hz
    refine .quiet h (cv:=.bool (!(m==n))) ?_ rfl (.b _)
    grind [Go.execOp,Gn,Sem.run_bind,Sem.run_pure,Result.andThen_ok]
   ·cases hz
  ·cases hz
 ·rename_i m n hx hy
  have ap:=(hx▸h.fS J (by rw [hx];simp) (by rw [hx];rfl)).HK
  have ao:=(hy▸h.fS ax (by rw [hy];simp) (by rw [hy];rfl)).HK
  split at hz
  ·split at hz
   ·rename_i hle
    obtain rfl:=aq hz
    refine .quiet h (cv:=.string ⟨(m++n).toArray⟩) ?_ rfl (.s _)
    unfold Go.execOp
    have:¬(((m.length+n.length:Nat):Int)>IntKind.i64.max):=by
     grind [IntKind.max,IntKind.bits]
    grind [xO,Sem.run_pure,Go.binOp,Op.stringOp,Ex,O5]
   ·cases hz
  ·obtain rfl:=aq hz
   refine .quiet h (cv:=.bool (m==n)) ?_ rfl (.b _)
   grind [Go.execOp,xO,Sem.run_pure,Go.binOp,Op.stringOp,Kl]
  ·obtain rfl:=aq hz
   refine .quiet h (cv:=.bool (!(m==n))) ?_ rfl (.b _)
   grind [Go.execOp,xO,Sem.run_pure,Go.binOp,Op.stringOp,Kl]
  ·cases hz
 ·cases hz
theorem aE.len(h:aE C st a w σ){y:Operand}{x:bY}{q:TypeId×List AV}(hl:cJ y x=true)(he:st.elems C.E.dp (st.ev x)=some q) :
  ∃ A cap,a.eval y= .slice A q.2.length cap∧q.2.length≤cap:=by
 cases hx:st.ev x with
 | l t es=>
  rw [hx] at he
  obtain rfl:=aq he
  obtain ⟨A,cap,hv,am⟩:=(hx▸h.fS hl (by rw [hx];simp) (by rw [hx];rfl)).OP
  grind
 | n=>
  rw [hx] at he
  obtain rfl:=aq he
  exact ⟨_,_,(hx▸h.fS hl (by rw [hx];simp) (by rw [hx];rfl)).HL,bG _⟩
 | o t es=>
  rw [hx] at he
  obtain rfl:=aq he
  obtain ⟨n,rfl,hn⟩:=eM hx rfl hl
  have F:st.rowAt C.E.dp (.s n)=some (t,es):=by simp [St.rowAt,hn]
  obtain ⟨A,cap,hv,hle⟩:=h.Kk F
  exact ⟨A,cap,by rw [AG hl];exact hv,hle⟩
 | r pl=>
  rw [hx] at he
  obtain ⟨n,rfl,hn⟩:=eM hx rfl hl
  have F:st.rowAt C.E.dp pl=some q:=he
  obtain ⟨A,cap,hv,hle⟩:=h.Kk (t:=q.1) (es:=q.2) F
  exact ⟨A,cap,((hn▸h.slot hl) (by rw [F];rfl)).trans hv,hle⟩
 | v pl lo len=>
  rw [hx] at he
  obtain ⟨n,rfl,hn⟩:=eM hx rfl hl
  simp only [St.elems] at he
  split at he
  ·rename_i t es F
   split at he
   ·rename_i aU
    obtain rfl:=aq he
    obtain ⟨A,n',cap,aw,hv⟩:=(hn▸h.slot hl) t es F aU
    obtain ⟨A',cap',a0,hle⟩:=h.Kk F
    grind
   ·cases he
  ·cases he
 | _=>rw [hx] at he;cases he
theorem ahd{str:Bool}{x:bY}(h:aE C st a w σ)(hl:cE C.P (.ln str x) o.op=true)(he:execOp R Ω C.E st d (.ln str x)=some r) :
  e9 C o d a w σ r.2 r.1:=by
 obtain ⟨c,y,t,S,a4,aT,bi,N,O⟩:∃ c y t,o.op= .call c∧c.callee= .builtin .len∧c.args.toList=[y]∧c.argTypes.toList=[t]∧cJ y x=true∧
   (if str then AX C.P t else (lF C.P t).isSome)=true:=by
  simp only [cE] at hl;grind
 have aB:c.args=#[y]:=by grind
 have a6:c.argTypes=#[t]:=by grind
 have B:∀ cv,(Builtin.len_ #[t] o.type #[a.eval y]).run C.P w= .ok cv w→(Go.execOp a.eval o).run C.P w= .ok (.value cv) w:=by
  simp_all [Go.execOp,resolve,invoke,builtin]
 simp only [execOp] at he
 split at he
 ·rename_i l hx
  split at he
  ·rename_i hs
   obtain rfl:=aq he
   rw [hs] at O
   simp only [aH] at O
   have hu:C.P.underlying t=some .string:=by
    grind [AX]
   have hv:=(hx▸h.fS N (by rw [hx];simp) (by rw [hx];rfl)).HK
   refine .quiet h (B (.int .i64 l.length) ?_) rfl (.i _ _)
   simp [Builtin.len_,run_underlying hu,hv,goInt,Ex]
  ·cases he
 ·rename_i k b n s hx
  split at he
  ·cases he
  ·rename_i hs
   obtain rfl:=aq he
   rw [ah hs] at O
   obtain ⟨e,hu⟩:∃ e,C.P.underlying t=some (.slice e):=by
    grind [lF]
   obtain ⟨cap,_,_,hv⟩:=(hx▸h.fS N (by rw [hx];simp) (by rw [hx];rfl)).Vp
   refine .quiet h (B (.int .i64 n) ?_) rfl (.i _ _)
   simp [Builtin.len_,run_underlying hu,hv,goInt]
 ·split at he
  ·cases he
  ·rename_i hs
   obtain ⟨q,hq,he⟩:=au.1 he
   obtain rfl:=aq he
   rw [ah hs] at O
   obtain ⟨e,hu⟩:∃ e,C.P.underlying t=some (.slice e):=by
    grind [lF]
   obtain ⟨A,cap,hv,_⟩:=h.len N hq
   refine .quiet h (B (.int .i64 q.2.length) ?_) rfl (.i _ _)
   simp [Builtin.len_,run_underlying hu,hv,goInt]
theorem R7(h:aE C st a w σ){y:Option Operand}{x:Option bY}{dflt n cap:Nat}{code:BoundsCode}(hl:Aj y x=true)(hb:qc st x dflt=some n)(hn:n≤cap) :
  (match y.map a.eval with
   | some v=>Instr.sliceBound v cap code
   | none=>pure dflt:Sem Nat).run C.P w= .ok n w:=by
 cases y with
 | none=>
  cases x with
  | none=>obtain rfl:=aq hb;rfl
  | some x=>simp [Aj] at hl
 | some y=>
  cases x with
  | none=>simp [Aj] at hl
  | some x=>
   have bq:cJ y x=true:=hl
   obtain ⟨k,m,hi,bA,rfl⟩:=Gm (x:=st.ev x) hb
   have hv:=(hi▸h.fS bq (by rw [hi];simp) (by rw [hi];rfl)).oe
   simp_all [Instr.sliceBound,asIntOf]
theorem Cm(h:aE C st a w σ){lo' al:Option Operand}{lo hi:Option bY}{i j len cap:Nat}(sl:Bool)(N:Aj lo' lo=true)(aV:Aj al hi=true)
  (ak:qc st lo 0=some i) (ai:qc st hi len=some j) (aj:i≤j) (aO:j≤cap) :
  (Instr.sliceBounds sl len cap (lo'.map a.eval) (al.map a.eval) none).run C.P w= .ok (i,j,cap) w:=by
 have h1:=R7 h (cap:=cap) (code:=if sl then .sliceAcap else .sliceAlen) aV ai aO
 have h2:=R7 h (cap:=j) (code:=.sliceB) N ak aj
 unfold Instr.sliceBounds
 cases al with
 | none=>
  cases lo' with
  | none=>simp_all
  | some y=>simp_all
 | some z=>
  cases lo' with
  | none=>simp_all
  | some y=>simp_all
theorem Vr{P:Program}{t:TypeId}(h:AX P t=true):P.underlying t=some .string:=by
 grind [AX]
theorem Ri{P:Program}{t e:TypeId}(h:lF P t=some e):P.underlying t=some (.slice e):=by
 grind [lF]
theorem ahe{t sz:Nat}{x:bY}{lo hi:Option bY}(h:aE C st a w σ)(hl:cE C.P (.sl t sz x lo hi) o.op=true)(he:execOp R Ω C.E st d (.sl t sz x lo hi)=some r) :
  e9 C o d a w σ r.2 r.1:=by
 obtain ⟨ty,x',lo',al,S,J,N,aV,O⟩:∃ ty x' lo' al,o.op= .slice ty x' lo' al none∧cJ x' x=true∧Aj lo' lo=true∧Aj al hi=true∧
   (if t=0 then AX C.P ty else lF C.P ty==some t&&sized C.P t sz)=true:=by
  simp only [cE] at hl;split at hl
  ·rename_i ty x' lo' al hy
   simp only [aY] at hl
   exact ⟨_,_,_,_,hy,hl.1.1.1,hl.1.1.2,hl.1.2,hl.2⟩
  ·cases hl
 have V:∀ A n cap i j,a.eval x'= .slice A n cap→qc st lo 0=some i→qc st hi n=some j→i≤j→j≤cap→t≠0→
   C.P.cellsOf t=sz∧(Go.execOp a.eval o).run C.P w= .ok (.value (.slice (if cap=i then A else A.map (·.add (i*C.P.cellsOf t))) (j - i) (cap - i))) w:=by
  intro A n cap i j hv ak ai aj aO ht
  rw [ah ht] at O
  simp only [aY,eB] at O
  obtain ⟨G,D,ad⟩:=og O.2
  have hu:=Ri O.1
  have hb:=Cm h (len:=n) (cap:=cap) true N aV ak ai aj aO
  refine ⟨D,?_⟩
  unfold Go.execOp
  simp only [S,Instr.sliceAt,Instr.slice,hv,Sem.run_bind,run_underlying hu,Result.andThen_ok,hb,Option.map_none,mQ G,Sem.run_pure]
 simp only [execOp] at he
 split at he
 ·rename_i l hx
  obtain ⟨i,ak,he⟩:=au.1 he
  obtain ⟨j,ai,he⟩:=au.1 he
  split at he
  ·rename_i hc
   simp only [aY,eB,eS] at hc
   obtain ⟨⟨bk,aj⟩,aN⟩:=hc
   obtain rfl:=aq he
   have hv:=(hx▸h.fS J (by rw [hx];simp) (by rw [hx];rfl)).HK
   have hu:=Vr (by rw [af bk] at O;exact O)
   have hb:=Cm h (len:=l.length) (cap:=l.length) false N aV ak ai aj aN
   refine .quiet h (cv:=.string ⟨((l.take j).drop i).toArray⟩) ?_ rfl (.s _)
   simp_all [Go.execOp,Instr.sliceAt,Instr.slice,run_underlying,Ex,N5]
  ·cases he
 ·rename_i t' es hx
  obtain ⟨i,ak,he⟩:=au.1 he
  obtain ⟨j,ai,he⟩:=au.1 he
  split at he
  ·rename_i hc
   simp only [aY,uW,eS] at hc
   obtain ⟨⟨⟨ht,aC⟩,aj⟩,aN⟩:=hc
   obtain rfl:=aq he
   obtain ⟨A,cap,hv,am⟩:=(hx▸h.fS J (by rw [hx];simp) (by rw [hx];rfl)).OP
   have aO:j≤cap:=by
    rcases am with am | ⟨_,_,_,_,_,_,_,_,_,_,_,_,_,_,_,aS,_⟩
    ·grind
    ·omega
   obtain ⟨D,B⟩:=V A _ cap i j hv ak ai aj aO ht
   refine .quiet h B rfl ?_
   have hlen:((es.take j).drop i).length=j - i:=by simp;omega
   by_cases bt:j=i
   ·subst bt
    have:(es.take j).drop j=[]:=by grind
    rw [this,Nat.sub_self]
    exact .lnil _ _ _
   ·rcases am with am | ⟨g,b,cs,T,fz,sz',rfl,hI,hh,bm,aI,Q,aL,hp,h1,aS,a2,a3⟩
    ·grind
    ·have ba:C.P.cellsOf t=sz':=by
      have hm:es[i]? =some (es[i]'(by omega)):=bu _
      have:=cm hm
      rw [D,←Q _ this]
      have:=dz.1 aC _ this
      grind
     rw [ah (by omega),ba,←hlen]
     simp only [kJ,add_lit]
     have ar:∀ e∈(es.take j).drop i,e∈es:=by grind [List.mem_of_mem_take]
     refine VR.l t' _ g (b+i*sz') (cap - i) cs T fz sz' hI hh bm aI (fun e he=>Q e (ar e he)) ?_ (fun e he=>hp e (ar e he)) (fun e he=>h1 e (ar e he)) (by rw [hlen];omega) (by omega) fun k e m c hk hm=>?_
     ·rw [hlen]
      have:i*sz'+(j - i)*sz'≤es.length*sz':=by rw [←fQ];exact iz _ (by omega)
      omega
     ·have bs:es[i+k]? =some e:=by
       simp_all [xk]
      have:=a3 (i+k) e m c bs hm
      rwa [fQ,←AM] at this
  ·cases he
 ·rename_i pl hx
  obtain ⟨⟨t',es⟩,F,he⟩:=au.1 he
  obtain ⟨i,ak,he⟩:=au.1 he
  obtain ⟨j,ai,he⟩:=au.1 he
  split at he
  ·rename_i hc
   simp only [aY,uW,eB,eS] at hc
   obtain ⟨⟨⟨ht,bj⟩,aj⟩,aN⟩:=hc
   obtain rfl:=aq he
   subst bj
   obtain ⟨m,rfl,hm⟩:=eM hx rfl J
   obtain ⟨A,cap,aw,hle⟩:=h.Kk F
   have hv:a.eval x'= .slice A es.length cap:=((hm▸h.slot J) (by rw [F];rfl)).trans aw
   obtain ⟨D,B⟩:=V A _ cap i j hv ak ai aj (by omega) ht
   refine .AY h B (fun _ _ e=>by cases e) fun dd=>?_
   intro t2 es2 h2 _
   obtain ⟨rfl,rfl⟩:t'=t2∧es=es2:=by grind
   grind
  ·cases he
 ·cases he
end
variable [cN]
section
variable {C:Cx}{st:St}{a:Act}{w:World}{σ:Sp}{o:Oper}{d:Option Nat}{R:Rec}{Ω:ej}{r:AV×St}
theorem VR.L4{I:Nat→Prop}{κ:Key→Nat}{c:AV}{v:Value}(h:VR w I κ c v)(hc:c.one=true):v.oneCell'=true:=by
 cases h<;>first | rfl | (simp [AV.one] at hc)
theorem VR.cells{I:Nat→Prop}{κ:Key→Nat}{y:AV}{v:Value}(h:VR w I κ y v)(h1:∀ c∈y.cl,c.one=true) :
  y.cl.length=v.cells.size∧∀ (m:Nat)(c:AV),y.cl[m]? =some c→VR w I κ c (v.cells.getD m undef):=by
 by_cases ha:∃ cs,y= .a cs
 ·obtain ⟨cs,rfl⟩:=ha
  obtain ⟨vs,rfl,hl,_,hc⟩:=h.amb
  exact ⟨hl,hc⟩
 ·have aD:y.cl=[y]:=by cases y<;>first | rfl | grind
  have hv:v.cells=#[v]:=by
   have h2:=h1 y (by rw [aD];simp)
   cases h<;>first | rfl | (simp [AV.one] at h2)
  rw [aD,hv]
  refine ⟨rfl,fun m c hm=>?_⟩
  cases m with
  | zero=>
   simp_all
  | succ m=>simp at hm
structure CA(w:World)(I:Nat→Prop)(κ:Key→Nat)(cs:List AV)(vs:Array Value):Prop where
 len:cs.length=vs.size
 one:∀ c∈cs,c.one=true∨c= .u
 cell:∀ (m:Nat)(c:AV),cs[m]? =some c→VR w I κ c (vs.getD m undef)
theorem kd(cs:List AV)(off:Nat)(ys:List AV)(h:off+ys.length≤cs.length)(i:Nat) :
  (putCells cs off ys)[i]? =if off≤i∧i<off+ys.length then ys[i - off]? else cs[i]? :=by
 unfold putCells
 rw [rY,rZ]
 grind
theorem jN(cs:List AV)(off:Nat)(ys:List AV)(h:off+ys.length≤cs.length):(putCells cs off ys).length=cs.length:=by
 grind [putCells]
theorem Ey(off:Nat):∀ (l:List (Value×Nat))(cells:Array Value),(∀ x∈l,off+x.2<cells.size)→
  (l.foldl (fun cs x=>cs.setIfInBounds (off+x.2) x.1) cells).size=cells.size
 | [],_,_=>rfl
 | x::l,cells,h=>by
  simp only [AO]
  rw [Ey off l _ ((by grind)),Array.size_setIfInBounds]
theorem Gp(off:Nat)(us:List Value):∀ (k:Nat)(cells:Array Value),off+k+us.length≤cells.size→
  ∀ i,((us.zipIdx k).foldl (fun cs x=>cs.setIfInBounds (off+x.2) x.1) cells)[i]? =
   if off+k≤i∧i<off+k+us.length then us[i - off - k]? else cells[i]? :=by
 induction us with
 | nil=>
  simp_all [ah]
 | cons u us ih=>
  grind [List.zipIdx_cons]
theorem CA.put{I:Nat→Prop}{κ:Key→Nat}{cs:List AV}{vs:Array Value}(h:CA w I κ cs vs){off:Nat}{ys:List AV}{us:List Value}(hl:ys.length=us.length)
  (ho:off+ys.length≤cs.length) (h1:∀ c∈ys,c.one=true∨c= .u) (hc:∀ (m:Nat)(c:AV),ys[m]? =some c→VR w I κ c (us[m]?.getD undef)) :
  CA w I κ (putCells cs off ys) ((us.zipIdx).foldl (fun cs x=>cs.setIfInBounds (off+x.2) x.1) vs):=by
 have U:((us.zipIdx).foldl (fun cs x=>cs.setIfInBounds (off+x.2) x.1) vs).size=vs.size:=Ey off _ _ fun x hx=>by
  have:=F5 hx
  have:=h.len
  omega
 refine ⟨by rw [jN _ _ _ ho,U,h.len],fun c hm=>?_,fun m c hm=>?_⟩
 ·unfold putCells at hm
  rcases iA.1 hm with hm | hm
  ·rcases iA.1 hm with hm | hm
   ·exact h.one c (oL hm)
   ·exact h1 c hm
  ·exact h.one c (xj hm)
 ·rw [kd _ _ _ ho] at hm
  have hf:=Gp off us 0 vs (by have:=h.len;omega) m
  simp only [p8,xr,←hl] at hf
  rw [iy,hf]
  by_cases hi:off≤m∧m<off+ys.length
  ·grind
  ·rw [ah hi] at hm ⊢
   rw [←iy]
   exact h.cell m c hm
theorem run_places(P:Program)(w:World):∀ (fs:List Field),(∀ f∈fs,(P.info? f.type).isSome=true)→
  (fs.mapM (fun f=>do pure (f.offset,←sizeOf f.type):Field→Sem (Nat×Nat))).run P w= .ok (fs.map fun f=>(f.offset,P.cellsOf f.type)) w
 | [],_=>rfl
 | f::fs,h=>by
  rw [AP]
  simp only [Sem.run_bind,mQ (h f (by simp)),Result.andThen_ok,Sem.run_pure,run_places P w fs (fun g hg=>h g (by simp [hg])),je]
theorem O6(h:aE C st a w σ){t:TypeId}{fs:Array Field}(hu:C.P.underlying t=some (.struct fs)) :
  ∀ (ps:List (Nat×Operand))(qs:List (Nat×Nat×bY))(cs:List AV)(vs:Array Value),na C.P t ps qs=true→CA w σ.I σ.κ cs vs→
   (∀ f∈qs,(st.ev f.2.2).copy=true∧(st.ev f.2.2).nc=f.2.1∧(∀ c∈(st.ev f.2.2).cl,c.one=true)∧f.1+f.2.1≤cs.length)→
   ∃ vs',Instr.fill (fun i=>((fs.toList.map fun f=>(f.offset,C.P.cellsOf f.type)).toArray)[i]?) vs (ps.map fun p=>(p.1,a.eval p.2))=some vs'∧
    CA w σ.I σ.κ (qs.foldl (fun cs f=>putCells cs f.1 (st.ev f.2.2).cl) cs) vs'
 | [],[],cs,vs,_,K,_=>⟨vs,rfl,K⟩
 | (i,y)::ps,(off,sz,x)::qs,cs,vs,hl,K,hq=>by
  simp only [na,aY] at hl
  obtain ⟨⟨hf,N⟩,X⟩:=hl
  obtain ⟨aW,Y,h1,hle⟩:=hq (off,sz,x) (by simp)
  simp only at aW Y h1 hle
  split at hf
  ·rename_i f aP
   simp only [aY,eB] at hf
   obtain ⟨rfl,U⟩:=hf
   obtain ⟨G,D,ad⟩:=og U
   obtain ⟨fs',bh,bv⟩:=C6 aP
   obtain rfl:fs=fs':=by grind
   have hv:=h.vA N aW
   obtain ⟨aD,a3⟩:=hv.cells h1
   have Q:(st.ev x).cl.length=sz:=Y
   have H:CA w σ.I σ.κ (putCells cs f.offset (st.ev x).cl) (((a.eval y).cells.zipIdx).foldl (fun cs x=>cs.setIfInBounds (f.offset+x.2) x.1) vs):=by
    have:=K.put (off:=f.offset) (ys:=(st.ev x).cl) (us:=(a.eval y).cells.toList) (by simpa using aD) (by omega) (fun c hc=>.inl (h1 c hc)) ((by grind [Array.getD_eq_getD_getElem?]))
    grind [Array.toList_zipIdx]
   have hlen:=jN cs f.offset (st.ev x).cl (by omega)
   obtain ⟨vs',Z,aa⟩:=O6 h hu ps qs _ _ X H (fun g hg=>by rw [hlen];exact hq g (by simp [hg]))
   refine ⟨vs',?_,aa⟩
   have az:((fs.toList.map fun f=>(f.offset,C.P.cellsOf f.type)).toArray)[i]? =some (f.offset,sz):=by
    grind
   have bw:(a.eval y).cells.size=sz:=by omega
   have ab:¬(f.offset+sz>vs.size):=by have:=K.len;omega
   grind [Instr.fill]
  ·cases hf
 | [],_::_,_,_,hl,_,_=>by simp [na] at hl
 | _::_,[],_,_,hl,_,_=>by simp [na] at hl
theorem Al{P:Program}{t:TypeId}{v:Value}(h:zeroOf P t=some v):∃ i,P.info? t=some i∧i.zero=some v:=by
 grind [zeroOf,Option.bind_eq_some_iff]
theorem I2{P:Program}{t:TypeId}{v:Value}(h:zeroOf P t=some v)(w:World):(zeroValue t).run P w= .ok v w:=by
 obtain ⟨i,hi,hz⟩:=Al h
 simp [zeroValue,typeInfo,hi,hz]
theorem N6{cs ys:List AV}{off:Nat}{c:AV}(h:c∈putCells cs off ys):c∈cs∨c∈ys:=by
 grind [putCells]
theorem O7:∀ (qs:List (Nat×Nat×bY))(cs:List AV),(∀ c∈cs,c.one=true)→(∀ f∈qs,∀ c∈(st.ev f.2.2).cl,c.one=true)→∀ c∈qs.foldl (fun cs f=>putCells cs f.1 (st.ev f.2.2).cl) cs,c.one=true
 | [],_,h,_=>h
 | q::qs,cs,h,hq=>O7 qs _ ((by grind [N6])) fun f hf=>hq f (by simp [hf])
theorem ahf{zs:List AV}{fs:List (Nat×Nat×bY)}(h:aE C st a w σ)(hl:cE C.P (.bd zs fs) o.op=true)(he:execOp R Ω C.E st d (.bd zs fs)=some r) :
  e9 C o d a w σ r.2 r.1:=by
 simp only [cE] at hl
 split at hl
 ·rename_i t parts S
  simp only [aY] at hl
  obtain ⟨⟨hz,M⟩,aK⟩:=hl
  split at hz
  ·rename_i v bb
   simp only [aY] at hz
   split at aK
   ·rename_i fds hu
    simp only [execOp] at he
    split at he
    ·rename_i aC
     cases he
     have an:∀ f∈fs,(st.ev f.2.2).copy=true∧(st.ev f.2.2).nc=f.2.1∧(∀ c∈(st.ev f.2.2).cl,c.one=true)∧f.1+f.2.1≤zs.length:=by
      grind
     obtain ⟨hlen,aR⟩:=vd (w:=w) (I:=σ.I) (κ:=σ.κ) v.cells.toList zs hz.1
     have K:CA w σ.I σ.κ zs v.cells:=⟨by grind,by grind,by grind [Array.getD_eq_getD_getElem?]⟩
     obtain ⟨vs',Z,H⟩:=O6 h hu parts.toList fs zs v.cells M K an
     have G:∀ f∈fds.toList,(C.P.info? f.type).isSome=true:=by grind [Array.all_eq_true_iff_forall_mem]
     have ag:=run_places C.P w fds.toList G
     have B:(Go.execOp a.eval o).run C.P w= .ok (.value (.agg vs')) w:=by
      simp_all [Go.execOp,Instr.build,I2,run_underlying,F6]
     refine .lg B ⟨.refl _ _ _,h,fun _ _=>o0 (.a _ _ H.len (O7 fs zs ((by grind)) fun f hf=>(an f hf).2.2.1) H.cell),fun _ _ _ _ e=>by cases e⟩
    ·cases he
   ·cases aK
  ·cases hz
 ·cases hl
structure CG(w:World)(σ:Sp)(a:Act)(acc:List AV×List (Nat×Nat))(vs:Array Value):Prop where
 len:acc.1.length=vs.size
 one:∀ c∈acc.1,c.one=true∨c= .u
 cell:∀ (m:Nat)(c:AV),acc.1[m]? =some c→VR w σ.I σ.κ c (vs.getD m undef)
 row:∀ q∈acc.2,q.1<vs.size∧vs.getD q.1 undef=a.tmps.getD q.2 undef
theorem CG.put{acc:List AV×List (Nat×Nat)}{rs:List (Nat×Nat)}{vs:Array Value}(h:CG w σ a acc vs){off:Nat}{ys:List AV}{us:List Value}(hl:ys.length=us.length)
  (ho:off+ys.length≤acc.1.length) (h1:∀ c∈ys,c.one=true∨c= .u) (hc:∀ (m:Nat)(c:AV),ys[m]? =some c→VR w σ.I σ.κ c (us[m]?.getD undef))
  (hr:∀ q∈rs,(q∈acc.2∧¬(off≤q.1∧q.1<off+ys.length))∨(q.1=off∧us[0]? =some (a.tmps.getD q.2 undef))) :
  CG w σ a (putCells acc.1 off ys,rs) ((us.zipIdx).foldl (fun cs x=>cs.setIfInBounds (off+x.2) x.1) vs):=by
 have K:CA w σ.I σ.κ acc.1 vs:=⟨h.len,h.one,h.cell⟩
 have hp:=K.put hl ho h1 hc
 refine ⟨hp.len,hp.one,hp.cell,fun q hq=>?_⟩
 have U:((us.zipIdx).foldl (fun cs x=>cs.setIfInBounds (off+x.2) x.1) vs).size=vs.size:=Ey off _ _ fun x hx=>by
  have:=F5 hx
  have:=h.len
  omega
 have hf:=Gp off us 0 vs (by have:=h.len;omega) q.1
 simp only [p8,xr,←hl] at hf
 rw [U,iy,hf]
 rcases hr q hq with ⟨h2,h3⟩ | ⟨h2,h3⟩
 ·rw [ah h3,←iy]
  exact h.row q h2
 grind
theorem Vs{t:TypeId}{es:List AV}{L:e8}{wr:Prop}{P:Program}{W:Nat→Prop}{v:Value}(h:OwnAt P W w σ L wr t es v):v.cells=#[v]:=by
 rcases h with ⟨_,rfl⟩ | ⟨g,cap,cs,rfl,_⟩<;>rfl
theorem NB(h:aE C st a w σ){t:TypeId}{fs:Array Field}(hu:C.P.underlying t=some (.struct fs)){n:Nat} :
  ∀ (ps:List (Nat×Operand))(qs:List (Nat×Nat×bY))(acc:List AV×List (Nat×Nat))(vs:Array Value),acc.1.length=n→na C.P t ps qs=true→CG w σ a acc vs→
   (∀ f∈qs,S8 st n f=true)→
   ∃ vs',Instr.fill (fun i=>((fs.toList.map fun f=>(f.offset,C.P.cellsOf f.type)).toArray)[i]?) vs (ps.map fun p=>(p.1,a.eval p.2))=some vs'∧
    CG w σ a (qs.foldl (za st) acc) vs'
 | [],[],acc,vs,_,_,K,_=>⟨vs,rfl,K⟩
 | (i,y)::ps,(off,sz,x)::qs,acc,vs,hn,hl,K,hq=>by
  simp only [na,aY] at hl
  obtain ⟨⟨hf,N⟩,X⟩:=hl
  have hb:=hq (off,sz,x) (by simp)
  simp only [S8,aY,eS] at hb
  obtain ⟨hb,hle⟩:=hb
  split at hf
  ·rename_i f aP
   simp only [aY,eB] at hf
   obtain ⟨rfl,U⟩:=hf
   obtain ⟨G,D,ad⟩:=og U
   obtain ⟨fs',bh,bv⟩:=C6 aP
   obtain rfl:fs=fs':=by grind
   have aJ:(a.eval y).cells.size=sz∧(za st acc (f.offset,sz,x)).1.length=n∧CG w σ a (za st acc (f.offset,sz,x)) (((a.eval y).cells.zipIdx).foldl (fun cs x=>cs.setIfInBounds (f.offset+x.2) x.1) vs):=by
    unfold za
    simp only
    cases av:rowOf st x with
    | some m=>
     rw [av] at hb
     have bz:sz=1:=by simpa using hb
     cases x with
     | c z=>simp [rowOf] at av
     | t m'=>
      simp only [rowOf] at av
      split at av
      ·rename_i tt es hx
       obtain rfl:=aq av
       have ho:=h.slot N
       rw [hx] at ho
       have bx:=Vs (show OwnAt _ _ _ _ _ _ _ _ _ from ho)
       have bB:a.eval y=a.tmps.getD m' undef:=by rw [AG N];rfl
       refine ⟨by grind,by grind [jN],?_⟩
       have:=K.put (off:=f.offset) (ys:=[.u]) (us:=(a.eval y).cells.toList) (rs:=(f.offset,m')::acc.2.filter fun q=>q.1 !=f.offset) (by rw [bx];rfl) (by simp;omega) (fun c hc=>.inr (by simpa using hc)) (fun m c hm=>by
        match m,hm with
        | 0,hm=>cases hm;exact .u _) ((by grind))
       grind
      ·cases av
    | none=>
     rw [av] at hb
     simp only [aY,eB] at hb
     obtain ⟨⟨aW,Y⟩,h1⟩:=hb
     have a9:∀ c∈(st.ev x).cl,c.one=true:=by grind
     have hv:=h.vA N aW
     obtain ⟨aD,a3⟩:=hv.cells a9
     have Q:(st.ev x).cl.length=sz:=Y
     refine ⟨by omega,by grind [jN],?_⟩
     have:=K.put (off:=f.offset) (ys:=(st.ev x).cl) (us:=(a.eval y).cells.toList) (rs:=acc.2.filter fun q=>!(decide (f.offset≤q.1)&&decide (q.1<f.offset+sz))) (by simpa using aD) (by omega) (fun c hc=>.inl (a9 c hc)) ((by grind [Array.getD_eq_getD_getElem?])) ((by grind))
     grind [Array.toList_zipIdx]
   obtain ⟨bw,hlen,H⟩:=aJ
   obtain ⟨vs',Z,aa⟩:=NB h hu ps qs _ _ hlen X H (fun g hg=>hq g (by simp [hg]))
   refine ⟨vs',?_,aa⟩
   have az:((fs.toList.map fun f=>(f.offset,C.P.cellsOf f.type)).toArray)[i]? =some (f.offset,sz):=by
    grind
   have ab:¬(f.offset+sz>vs.size):=by have:=K.len;omega
   grind [Instr.fill]
  ·cases hf
 | [],_::_,_,_,_,hl,_,_=>by simp [na] at hl
 | _::_,[],_,_,_,hl,_,_=>by simp [na] at hl
theorem ahg{zs:List AV}{fs:List (Nat×Nat×bY)}(h:aE C st a w σ)(hl:cE C.P (.bg zs fs) o.op=true)(he:execOp R Ω C.E st d (.bg zs fs)=some r) :
  e9 C o d a w σ r.2 r.1:=by
 simp only [cE] at hl
 split at hl
 ·rename_i t parts S
  simp only [aY] at hl
  obtain ⟨⟨hz,M⟩,aK⟩:=hl
  split at hz
  ·rename_i v bb
   simp only [aY] at hz
   split at aK
   ·rename_i fds hu
    simp only [execOp] at he
    split at he
    ·rename_i aC
     cases he
     obtain ⟨hlen,aR⟩:=vd (w:=w) (I:=σ.I) (κ:=σ.κ) v.cells.toList zs hz.1
     have K:CG w σ a (zs,[]) v.cells:=⟨by grind,by grind,by grind [Array.getD_eq_getD_getElem?],fun q hq=>by cases hq⟩
     obtain ⟨vs',Z,H⟩:=NB h hu parts.toList fs (zs,[]) v.cells rfl M K ((by grind))
     have G:∀ f∈fds.toList,(C.P.info? f.type).isSome=true:=by grind [Array.all_eq_true_iff_forall_mem]
     have ag:=run_places C.P w fds.toList G
     have B:(Go.execOp a.eval o).run C.P w= .ok (.value (.agg vs')) w:=by
      simp_all [Go.execOp,Instr.build,I2,run_underlying,F6]
     exact .lg B ⟨.refl _ _ _,h,fun _ _=>⟨vs',rfl,H.len,H.one,H.cell,fun q hq _=>(H.row q hq).2⟩,fun _ _ _ _ e=>by cases e⟩
    ·cases he
   ·cases aK
  ·cases hz
 ·cases hl
end
end Go.Proofs.YtlmphbbhaeampaaGreat.A
