/- Addresses of elements, sums and comparisons, lengths, pieces: the model does what the abstract run says. -/
import Derived.Test.YtlmphbbhaeampaaGreatAbs4
set_option linter.all false
namespace Go.Proofs.YtlmphbbhaeampaaGreat.A
open Go
variable [cj]
section
variable {C:Cx}{st:St}{a:Act}{w:World}{σ:Sp}{o:Oper}{d:Option Nat}{R:Rec}{Ω:dK}{r:AV×St}
theorem DQ{x:AV}{j:Nat}(h:rf x=some j):∃ k n,x= .i k n∧0≤n∧n.toNat=j:=by
 cases x<;>simp [rf] at h
 grind
theorem nx{P:Program}{t sz:Nat}(h:sized P t sz=true):(P.info? t).isSome=true∧P.cellsOf t=sz∧0<sz:=by
 grind [sized]
theorem tJ{sz:Nat}{e:Option AV}{f:AV→AV}(h:elemAt sz st e f=some r):∃ x,e=some x∧x.nc=sz∧r=(f x,st):=by
 grind [elemAt,Option.bind_eq_some_iff]
theorem dC{α:Type}{l:List α}{i:Nat}{x:α}(h:l[i]? =some x):i<l.length:=by
 grind
theorem acs{sz:Nat}{arr:Option Nat}{x i:bz}(h:aw C st a w σ)(hl:bN C.P (.ia sz arr x i) o.op=true)(he:execOp R Ω C.E st d (.ia sz arr x i)=some r) :
  ei C o d a w σ r.2 r.1:=by
 obtain ⟨t,x',i',S,J,br,O⟩:∃ t x' i',o.op= .indexAddr t x' i'∧bY x' x=true∧bY i' i=true∧
   ((arr=none∧∃ e,C.P.underlying t=some (.slice e)∧sized C.P e sz=true)∨∃ n e,arr=some n∧C.P.underlying t=some (.array n e)∧sized C.P e sz=true):=by
  simp only [bN] at hl;grind
 simp only [execOp] at he
 obtain ⟨j,hj,he⟩:=aj.1 he
 obtain ⟨k,n,hi,a9,rfl⟩:=DQ hj
 have a7:=(hi▸h.e7 br (by rw [hi];simp) (by rw [hi];rfl)).mO
 rcases O with ⟨rfl,e,hu,U⟩ | ⟨len,e,rfl,hu,U⟩
 ·obtain ⟨G,D,ag⟩:=nx U
  have B:∀ g b len cap,a.eval x'= .slice (some ⟨g,b,none⟩) len cap→n.toNat<len→
    (Go.execOp a.eval o).run C.P w= .ok (.value (.pointer (some ⟨g,b+n.toNat*sz,none⟩))) w:=by
   intro g b len cap hv ac
   unfold Go.execOp
   have:0≤n∧n<(len:Int):=⟨a9,by omega⟩
   simp [S,hv,a7,Instr.indexAt,asIntOf,run_underlying hu,this,kr G,D,add_lit]
  simp only at he
  split at he
  ·rename_i t' es hx
   obtain ⟨e',ad,Y,rfl⟩:=tJ he
   have ac:=dC ad
   obtain ⟨A,cap,hv,ao⟩:=(hx▸h.e7 J (by rw [hx];simp) (by rw [hx];rfl)).Lf
   rcases ao with ao | ⟨g,b,cs,T,fz,sz',rfl,hI,hh,ht,aJ,Q,aN,hp,h1,aT,a4,hc⟩
   ·grind
   ·have hm:=bu ad
    obtain rfl:sz=sz':=Y.symm.trans (Q e' hm)
    refine .quiet h (B _ _ _ _ hv ac) rfl ?_
    refine VR.e e' 0 g (b+n.toNat*sz) cs T fz hI hh (hp e' hm) ?_ (h1 e' hm) (by grind)
    rw [Y]
    have:(n.toNat+1)*sz≤es.length*sz:=fL _ (by omega)
    grind
  ·rename_i t' es hx
   cases x with
   | c z=>cases he
   | t m=>
    simp only at he
    obtain ⟨e',ad,Y,rfl⟩:=tJ he
    have ac:=dC ad
    have a0:az st.fr m= .o t' es:=hx
    have F:st.rowAt C.E.dp (.s m)=some (t',es):=by simp [St.rowAt,a0]
    obtain ⟨g,cap,cs,ax,hR⟩:=h.B3 F (fun e=>by grind)
    have hv:a.eval x'= .slice (some ⟨g,0,none⟩) es.length cap:=by rw [yb J];exact ax
    refine .yr h (B _ _ _ _ hv ac) (fun _ _ e=>by cases e) fun dd=>?_
    intro t2 es2 h2 ba
    grind
  ·rename_i pl hx
   obtain ⟨⟨t',es⟩,F,he⟩:=aj.1 he
   obtain ⟨e',ad,Y,rfl⟩:=tJ he
   have ac:=dC ad
   obtain ⟨m,rfl,hm⟩:=ej hx rfl J
   have hs:=hm▸h.slot J
   have hv:a.eval x'=gm w σ a pl:=hs (by rw [F];rfl)
   obtain ⟨g,cap,cs,ax,hR⟩:=h.B3 F (fun e=>by grind)
   refine .yr h (B _ _ _ _ (hv.trans ax) ac) (fun _ _ e=>by cases e) fun dd=>?_
   intro t2 es2 h2 ba
   grind
  ·rename_i pl lo len hx
   split at he
   ·rename_i aP
    obtain ⟨⟨t',es⟩,F,he⟩:=aj.1 he
    split at he
    ·rename_i aW
     obtain ⟨e',ad,Y,rfl⟩:=tJ he
     simp only at aW ad
     have ac:=dC ad
     obtain ⟨m,rfl,hm⟩:=ej hx rfl J
     obtain ⟨A,n',cap,ax,hv⟩:=(hm▸h.slot J) t' es F aW
     obtain ⟨g,cap',cs,a2,hR⟩:=h.B3 F (fun e=>by grind)
     obtain ⟨rfl,rfl,rfl⟩:A=some ⟨g,0,none⟩∧n'=es.length∧cap=cap':=by
      grind
     have bF:=hR.ecap
     have a1:C.P.cellsOf t'=sz:=(hR.nc e' (bu ad)).symm.trans Y
     rw [ab (by omega),a1] at hv
     simp only [jf,add_lit,gO] at hv
     refine .yr h (B _ _ _ _ hv aP) (fun _ _ e=>by cases e) fun dd=>?_
     intro t2 es2 h2 ba
     grind [Nat.add_mul]
    ·cases he
   ·cases he
  ·rename_i k b m s hx
   split at he
   ·rename_i hc
    obtain rfl:=ah he
    obtain ⟨cap,_,_,hv⟩:=(hx▸h.e7 J (by rw [hx];simp) (by rw [hx];rfl)).RE
    exact .quiet h (B _ _ _ _ hv hc.1) rfl (.p _ _)
   ·cases he
  ·cases he
 ·obtain ⟨G,D,ag⟩:=nx U
  simp only at he
  split at he
  ·rename_i ac
   have B:∀ g b,a.eval x'= .pointer (some ⟨g,b,none⟩)→(Go.execOp a.eval o).run C.P w= .ok (.value (.pointer (some ⟨g,b+n.toNat*sz,none⟩))) w:=by
    intro g b hv
    unfold Go.execOp
    have:0≤n∧n<(len:Int):=⟨a9,by omega⟩
    simp [S,hv,a7,Instr.indexAt,asIntOf,run_underlying hu,this,kr G,D,add_lit,Instr.sureAddr]
   split at he
   ·rename_i k b hx
    obtain rfl:=ah he
    have hv:=(hx▸h.e7 J (by rw [hx];simp) (by rw [hx];rfl)).xD
    exact .quiet h (B _ _ hv) rfl (.p _ _)
   ·rename_i z b hx
    obtain rfl:=ah he
    obtain ⟨g,b',cs,T,fz,hv,hI,hh,bq,hs,h1,hc⟩:=(hx▸h.e7 J (by rw [hx];simp) (by rw [hx];rfl)).Ld
    exact .quiet h (by grind) rfl (.e z _ g b' cs T fz hI hh bq hs h1 hc)
   ·cases he
  ·cases he
theorem LB(l m:List UInt8):(⟨l.toArray⟩:ByteArray)++⟨m.toArray⟩=⟨(l++m).toArray⟩:=by
 apply Go.WideShapes.bytes_inj
 simp
theorem B4(l:List UInt8):(⟨l.toArray⟩:ByteArray).size=l.length:=by simp [ByteArray.size]
theorem Hh(l:List UInt8):(⟨l.toArray⟩:ByteArray).toList=l:=by simp [ByteArray.toList_eq]
theorem KD(l:List UInt8)(i j:Nat):(⟨l.toArray⟩:ByteArray).extract i j=⟨((l.take j).drop i).toArray⟩:=by
 apply Go.WideShapes.bytes_inj
 simp [ByteArray.data_extract,List.drop_take]
theorem NK(op:BinOp)(t:TypeId)(x y:Operand)(k k':IntKind)(m n:Int):eqGuard op t x y (.int k m) (.int k' n)=pure ():=by
 simp_all [eqGuard]
theorem DR(op:BinOp)(t:TypeId)(x y:Operand)(m n:Bool):eqGuard op t x y (.bool m) (.bool n)=pure ():=by
 simp_all [eqGuard]
theorem u0(op:BinOp)(t:TypeId)(x y:Operand)(m n:ByteArray):eqGuard op t x y (.string m) (.string n)=pure ():=by
 simp_all [eqGuard]
theorem Hj{P:Program}{I:Nat→Prop}{κ:Key→Nat}(dd:Nat)(vs ws:Array Value):∀ (fs:List Field)(i:Nat)(ks:List Nat)(xs ys:List AV)(b:Bool),rk P i ks fs=true→jA ks xs ys=some b→
  (∀ (j:Nat)(c:AV),xs[j]? =some c→i+j<vs.size∧VR w I κ c (vs.getD (i+j) undef))→(∀ (j:Nat)(c:AV),ys[j]? =some c→i+j<ws.size∧VR w I κ c (ws.getD (i+j) undef))→
  (Op.eqFields (dd+1) vs ws fs).run P w= .ok b w
 | [],i,ks,xs,ys,b,hf,he,hx,hy=>by
  cases ks with
  | nil=>
   cases xs<;>cases ys<;>simp only [jA] at he<;>try contradiction
   obtain rfl:=ah he
   simp [Op.eqFields]
  | cons k ks=>simp [rk] at hf
 | f::fs,i,ks,xs,ys,b,hf,he,hx,hy=>by
  cases ks with
  | nil=>simp [rk] at hf
  | cons k ks=>
   simp only [rk,aL,uG,ne_eq,dH] at hf
   obtain ⟨⟨⟨⟨h1,h2⟩,h3⟩,h4⟩,h5⟩:=hf
   cases xs with
   | nil=>grind [jA]
   | cons x xs=>
   cases ys with
   | nil=>grind [jA]
   | cons y ys=>
   obtain ⟨sx,vx⟩:=hx 0 x rfl
   obtain ⟨sy,vy⟩:=hy 0 y rfl
   rw [mo] at sx sy vx vy
   rw [eL,mq sx] at vx
   rw [eL,mq sy] at vy
   simp only [lr] at vx vy
   have p1:=run_part_plain (w:=w) h3 (mq sx)
   have p2:=run_part_plain (w:=w) h3 (mq sy)
   have a0:∀ (j:Nat)(c:AV),xs[j]? =some c→i+1+j<vs.size∧VR w I κ c (vs.getD (i+1+j) undef):=fun j c hc=>by
    have:=hx (j+1) c (by simpa using hc)
    grind
   have bf:∀ (j:Nat)(c:AV),ys[j]? =some c→i+1+j<ws.size∧VR w I κ c (ws.getD (i+1+j) undef):=fun j c hc=>by
    have:=hy (j+1) c (by simpa using hc)
    rwa [show i+(j+1)=i+1+j by omega] at this
   have step:∀ (q r:Bool),(Op.equalIn (dd+1) f.type vs[i] ws[i]).run P w= .ok q w→jA ks xs ys=some r→(q&&r)=b→(Op.eqFields (dd+1) vs ws (f::fs)).run P w= .ok b w:=by
    intro q r hq hr hb
    have ih:=Hj dd vs ws fs (i+1) ks xs ys r h5 hr a0 bf
    simp only [Op.eqFields,h1,ne_eq,zA,aA,Sem.run_bind,h2,p1,p2,hq,Result.andThen_ok]
    cases q with
    | false=>
      obtain rfl:false=b:=hb
      simp
    | true=>
     obtain rfl:r=b:=hb
     simpa using ih
   unfold jA at he
   split at he
   ·grind
   ·rename_i aO aI aH
    obtain ⟨rfl,rfl⟩:=o0 aO
    obtain ⟨rfl,rfl⟩:=o0 aI
    obtain ⟨rfl,rfl⟩:=o0 aH
    obtain ⟨r,hr,rfl⟩:=ew.1 he
    split at h4<;>try contradiction
    rename_i hu
    exact step _ r (by rw [vx.vN,vy.vN];grind [run_equalIn_bool']) hr rfl
   ·rename_i aO aI aH
    obtain ⟨rfl,rfl⟩:=o0 aO
    obtain ⟨rfl,rfl⟩:=o0 aI
    obtain ⟨rfl,rfl⟩:=o0 aH
    split at he
    ·rename_i bt
     subst bt
     obtain ⟨r,hr,rfl⟩:=ew.1 he
     split at h4<;>try contradiction
     rename_i hu
     exact step _ r (by rw [vx.mO,vy.mO];grind [run_equalIn_int]) hr rfl
    ·cases he
   ·rename_i aO aI aH
    obtain ⟨rfl,rfl⟩:=o0 aO
    obtain ⟨rfl,rfl⟩:=o0 aI
    obtain ⟨rfl,rfl⟩:=o0 aH
    obtain ⟨r,hr,rfl⟩:=ew.1 he
    split at h4<;>try contradiction
    rename_i hu
    refine step _ r ?_ hr rfl
    rw [vx.EO,vy.EO,run_equalIn_string w dd f.type _ _ hu]
    simp [ByteArray.toList_eq]
   ·cases he
theorem acu{ks:List Nat}{ng:Bool}{x y:bz}(h:aw C st a w σ)(hl:bN C.P (.ae ks ng x y) o.op=true)(he:execOp R Ω C.E st d (.ae ks ng x y)=some r) :
  ei C o d a w σ r.2 r.1:=by
 obtain ⟨t,x',y',t',op,S,a3,J,ay,aC⟩:∃ t x' y' t' op,o.op= .binOp op t x' y' t'∧op=(if ng then BinOp.neq else .eql)∧bY x' x=true∧bY y' y=true∧PL C.P ks t=true:=by
  simp only [bN] at hl;grind
 simp only [execOp] at he
 split at he
 ·rename_i xs ys hx hy
  obtain ⟨q,hq,he⟩:=aj.1 he
  obtain rfl:=ah he
  have ar:=hx▸h.e7 J (by rw [hx];simp) (by rw [hx];rfl)
  have aq:=hy▸h.e7 ay (by rw [hy];simp) (by rw [hy];rfl)
  generalize bi:a.eval x'=vx at ar
  generalize bh:a.eval y'=vy at aq
  cases ar with | a _ vs sx _ cx=>
  cases aq with | a _ ws sy _ cy=>
  unfold PL at aC
  split at aC
  ·rename_i fs hu
   simp only [aL,Bool.not_eq_eq_eq_not,wg] at aC
   obtain ⟨⟨f1,f2⟩,f3⟩:=aC
   have aR:C.P.fieldsOf t=fs:=by simp [Program.fieldsOf,hu]
   have B:(Op.equal t (.agg vs) (.agg ws)).run C.P w= .ok q w:=by
    show (Op.equalIn (9999+1) t (.agg vs) (.agg ws)).run C.P w= .ok q w
    rw [run_equalIn_struct w 9999 t vs ws (by grind) f2,aR]
    exact Hj 9998 vs ws fs.toList 0 ks xs ys q f1 hq
     (fun j c hc=>⟨by have:=(j8.1 hc).1;omega,by simpa using cx j c hc⟩)
     ((by grind))
   have aB:(eqGuard op t x' y' (.agg vs) (.agg ws)).run C.P w= .ok () w:=by
    simp_all [eqGuard]
   refine .quiet h (cv:=.bool (if ng then !q else q)) ?_ rfl (.b _)
   unfold Go.execOp
   subst a3
   cases ng<;>simp [S,bi,bh,aB,Go.binOp,B]<;>simp_all
  ·cases aC
 ·cases he
theorem acv{op:BinOp}{bl:Bool}{x y:bz}(h:aw C st a w σ)(hl:bN C.P (.bo op bl x y) o.op=true)(he:execOp R Ω C.E st d (.bo op bl x y)=some r) :
  ei C o d a w σ r.2 r.1:=by
 by_cases hm:op= .or
 ·
  subst hm
  obtain ⟨c,x',y',S,a6,aU,J,ay⟩:∃ c x' y',o.op= .call c∧c.callee= .builtin .max∧c.args.toList=[x',y']∧bY x' x=true∧bY y' y=true:=by
   simp only [bN] at hl;grind
  have aE:c.args=#[x',y']:=by grind
  simp only [execOp] at he
  obtain ⟨z,hz,he⟩:=aj.1 he
  obtain rfl:=ah he
  unfold qb at hz
  split at hz
  ·rename_i k m k' n hx hy
   have ar:=(hx▸h.e7 J (by rw [hx];simp) (by rw [hx];rfl)).mO
   have aq:=(hy▸h.e7 ay (by rw [hy];simp) (by rw [hy];rfl)).mO
   split at hz
   ·obtain rfl:=ah hz
    refine .quiet h (cv:=.int k (if n>m then n else m)) ?_ rfl (.i _ _)
    simp_all [Go.execOp,run_max_int2,resolve,invoke,builtin]
   ·cases hz
  ·grind
  ·cases hz
  ·cases hz
 obtain ⟨t,x',y',t',S,J,ay,bH⟩:∃ t x' y' t',o.op= .binOp op t x' y' t'∧bY x' x=true∧bY y' y=true∧bl=IC C.P t:=by
  simp only [bN] at hl;grind
 simp only [execOp] at he
 obtain ⟨z,hz,he⟩:=aj.1 he
 obtain rfl:=ah he
 unfold qb at hz
 split at hz
 ·rename_i k m k' n hx hy
  have ar:=(hx▸h.e7 J (by rw [hx];simp) (by rw [hx];rfl)).mO
  have aq:=(hy▸h.e7 ay (by rw [hy];simp) (by rw [hy];rfl)).mO
  split at hz
  ·rename_i hk
   subst hk
   have key:∀ cv,(Go.binOp op t (.int k m) (.int k n)).run C.P w= .ok cv w→z.copy=true→VR w σ.I σ.κ z cv→ei C o d a w σ st z:=by
    intro cv B hc hv
    refine .quiet h (cv:=cv) ?_ hc hv
    simp_all [Go.execOp,NK]
   cases op<;>simp only [sU] at hz<;>first
    | exact absurd rfl hm
    | (cases hz;done)
    | (obtain rfl:=ah hz;exact key _ (by simp [Go.binOp,Op.intArith]) rfl (.i _ _))
    | (obtain rfl:=ah hz;exact key _ (by simp [Go.binOp,Op.intCmp]) rfl (.b _))
    | skip
   ·split at hz
    ·cases hz
    ·rename_i hn
     obtain rfl:=ah hz
     exact key _ (by simp [Go.binOp,Op.intDiv,hn]) rfl (.i _ _)
   ·split at hz
    ·cases hz
    ·rename_i hn
     obtain rfl:=ah hz
     exact key _ (by simp [Go.binOp,Op.intDiv,hn]) rfl (.i _ _)
  ·cases hz
 ·rename_i m n hx hy
  have ar:=(hx▸h.e7 J (by rw [hx];simp) (by rw [hx];rfl)).vN
  have aq:=(hy▸h.e7 ay (by rw [hy];simp) (by rw [hy];rfl)).vN
  split at hz
  ·rename_i hb
   have hu:C.P.underlying t=some .bool:=by
    grind [IC]
   have aD:=run_eql_bool (P:=C.P) w t m n hu
   have bG:(Go.binOp .neq t (.bool m) (.bool n)).run C.P w= .ok (.bool (!(m==n))) w:=by
    simp only [Go.binOp] at aD ⊢
    simp only [Sem.run_bind,Sem.run_pure] at aD ⊢
    cases hq:(Op.equal t (.bool m) (.bool n)).run C.P w with
    | ok x w'=>simp only [hq,Result.andThen_ok,Result.ok.injEq,Value.bool.injEq] at aD ⊢;exact ⟨by rw [aD.1],aD.2⟩
    | halt x w'=>simp [hq] at aD
   split at hz
   ·obtain rfl:=ah hz
    refine .quiet h (cv:=.bool (m==n)) ?_ rfl (.b _)
    unfold Go.execOp
    simp only [S,ar,aq,DR,Sem.run_bind,Sem.run_pure,Result.andThen_ok,aD]
   ·obtain rfl:=ah hz
    refine .quiet h (cv:=.bool (!(m==n))) ?_ rfl (.b _)
    grind [Go.execOp,DR,Sem.run_bind,Sem.run_pure,Result.andThen_ok]
   ·cases hz
  ·cases hz
 ·rename_i m n hx hy
  have ar:=(hx▸h.e7 J (by rw [hx];simp) (by rw [hx];rfl)).EO
  have aq:=(hy▸h.e7 ay (by rw [hy];simp) (by rw [hy];rfl)).EO
  split at hz
  ·split at hz
   ·rename_i hle
    obtain rfl:=ah hz
    refine .quiet h (cv:=.string ⟨(m++n).toArray⟩) ?_ rfl (.s _)
    unfold Go.execOp
    have:¬(((m.length+n.length:Nat):Int)>IntKind.i64.max):=by
     grind [IntKind.max,IntKind.bits]
    grind [u0,Sem.run_pure,Go.binOp,Op.stringOp,B4,LB]
   ·cases hz
  ·obtain rfl:=ah hz
   refine .quiet h (cv:=.bool (m==n)) ?_ rfl (.b _)
   grind [Go.execOp,u0,Sem.run_pure,Go.binOp,Op.stringOp,Hh]
  ·obtain rfl:=ah hz
   refine .quiet h (cv:=.bool (!(m==n))) ?_ rfl (.b _)
   grind [Go.execOp,u0,Sem.run_pure,Go.binOp,Op.stringOp,Hh]
  ·cases hz
 ·cases hz
theorem aw.len(h:aw C st a w σ){y:Operand}{x:bz}{q:TypeId×List AV}(hl:bY y x=true)(he:st.elems C.E.dp (st.ev x)=some q) :
  ∃ A cap,a.eval y= .slice A q.2.length cap∧q.2.length≤cap:=by
 cases hx:st.ev x with
 | l t es=>
  rw [hx] at he
  obtain rfl:=ah he
  obtain ⟨A,cap,hv,ao⟩:=(hx▸h.e7 hl (by rw [hx];simp) (by rw [hx];rfl)).Lf
  grind
 | n=>
  rw [hx] at he
  obtain rfl:=ah he
  exact ⟨_,_,(hx▸h.e7 hl (by rw [hx];simp) (by rw [hx];rfl)).EP,aY _⟩
 | o t es=>
  rw [hx] at he
  obtain rfl:=ah he
  obtain ⟨n,rfl,hn⟩:=ej hx rfl hl
  have F:st.rowAt C.E.dp (.s n)=some (t,es):=by simp [St.rowAt,hn]
  obtain ⟨A,cap,hv,hle⟩:=h.Hf F
  exact ⟨A,cap,by rw [yb hl];exact hv,hle⟩
 | r pl=>
  rw [hx] at he
  obtain ⟨n,rfl,hn⟩:=ej hx rfl hl
  have F:st.rowAt C.E.dp pl=some q:=he
  obtain ⟨A,cap,hv,hle⟩:=h.Hf (t:=q.1) (es:=q.2) F
  exact ⟨A,cap,((hn▸h.slot hl) (by rw [F];rfl)).trans hv,hle⟩
 | v pl lo len=>
  rw [hx] at he
  obtain ⟨n,rfl,hn⟩:=ej hx rfl hl
  simp only [St.elems] at he
  split at he
  ·rename_i t es F
   split at he
   ·rename_i aW
    obtain rfl:=ah he
    obtain ⟨A,n',cap,ax,hv⟩:=(hn▸h.slot hl) t es F aW
    obtain ⟨A',cap',a2,hle⟩:=h.Hf F
    grind
   ·cases he
  ·cases he
 | _=>rw [hx] at he;cases he
theorem acw{str:Bool}{x:bz}(h:aw C st a w σ)(hl:bN C.P (.ln str x) o.op=true)(he:execOp R Ω C.E st d (.ln str x)=some r) :
  ei C o d a w σ r.2 r.1:=by
 obtain ⟨c,y,t,S,a6,aU,bk,N,O⟩:∃ c y t,o.op= .call c∧c.callee= .builtin .len∧c.args.toList=[y]∧c.argTypes.toList=[t]∧bY y x=true∧
   (if str then yq C.P t else (kQ C.P t).isSome)=true:=by
  simp only [bN] at hl;grind
 have aE:c.args=#[y]:=by grind
 have a8:c.argTypes=#[t]:=by grind
 have B:∀ cv,(Builtin.len_ #[t] o.type #[a.eval y]).run C.P w= .ok cv w→(Go.execOp a.eval o).run C.P w= .ok (.value cv) w:=by
  simp_all [Go.execOp,resolve,invoke,builtin]
 simp only [execOp] at he
 split at he
 ·rename_i l hx
  split at he
  ·rename_i hs
   obtain rfl:=ah he
   rw [hs] at O
   simp only [aA] at O
   have hu:C.P.underlying t=some .string:=by
    grind [yq]
   have hv:=(hx▸h.e7 N (by rw [hx];simp) (by rw [hx];rfl)).EO
   refine .quiet h (B (.int .i64 l.length) ?_) rfl (.i _ _)
   simp [Builtin.len_,run_underlying hu,hv,goInt,B4]
  ·cases he
 ·rename_i k b n s hx
  split at he
  ·cases he
  ·rename_i hs
   obtain rfl:=ah he
   rw [ab hs] at O
   obtain ⟨e,hu⟩:∃ e,C.P.underlying t=some (.slice e):=by
    grind [kQ]
   obtain ⟨cap,_,_,hv⟩:=(hx▸h.e7 N (by rw [hx];simp) (by rw [hx];rfl)).RE
   refine .quiet h (B (.int .i64 n) ?_) rfl (.i _ _)
   simp [Builtin.len_,run_underlying hu,hv,goInt]
 ·split at he
  ·cases he
  ·rename_i hs
   obtain ⟨q,hq,he⟩:=aj.1 he
   obtain rfl:=ah he
   rw [ab hs] at O
   obtain ⟨e,hu⟩:∃ e,C.P.underlying t=some (.slice e):=by
    grind [kQ]
   obtain ⟨A,cap,hv,_⟩:=h.len N hq
   refine .quiet h (B (.int .i64 q.2.length) ?_) rfl (.i _ _)
   simp [Builtin.len_,run_underlying hu,hv,goInt]
theorem Ox(h:aw C st a w σ){y:Option Operand}{x:Option bz}{dflt n cap:Nat}{code:BoundsCode}(hl:xA y x=true)(hb:pd st x dflt=some n)(hn:n≤cap) :
  (match y.map a.eval with
   | some v=>Instr.sliceBound v cap code
   | none=>pure dflt:Sem Nat).run C.P w= .ok n w:=by
 cases y with
 | none=>
  cases x with
  | none=>obtain rfl:=ah hb;rfl
  | some x=>simp [xA] at hl
 | some y=>
  cases x with
  | none=>simp [xA] at hl
  | some x=>
   have bs:bY y x=true:=hl
   obtain ⟨k,m,hi,bD,rfl⟩:=DQ (x:=st.ev x) hb
   have hv:=(hi▸h.e7 bs (by rw [hi];simp) (by rw [hi];rfl)).mO
   simp_all [Instr.sliceBound,asIntOf]
theorem zT(h:aw C st a w σ){lo' an:Option Operand}{lo hi:Option bz}{i j len cap:Nat}(sl:Bool)(N:xA lo' lo=true)(aX:xA an hi=true)
  (am:pd st lo 0=some i) (ak:pd st hi len=some j) (al:i≤j) (aQ:j≤cap) :
  (Instr.sliceBounds sl len cap (lo'.map a.eval) (an.map a.eval) none).run C.P w= .ok (i,j,cap) w:=by
 have h1:=Ox h (cap:=cap) (code:=if sl then .sliceAcap else .sliceAlen) aX ak aQ
 have h2:=Ox h (cap:=j) (code:=.sliceB) N am al
 unfold Instr.sliceBounds
 cases an with
 | none=>
  cases lo' with
  | none=>simp_all
  | some y=>simp_all
 | some z=>
  cases lo' with
  | none=>simp_all
  | some y=>simp_all
theorem RG{P:Program}{t:TypeId}(h:yq P t=true):P.underlying t=some .string:=by
 grind [yq]
theorem NL{P:Program}{t e:TypeId}(h:kQ P t=some e):P.underlying t=some (.slice e):=by
 grind [kQ]
theorem acx{t sz:Nat}{x:bz}{lo hi:Option bz}(h:aw C st a w σ)(hl:bN C.P (.sl t sz x lo hi) o.op=true)(he:execOp R Ω C.E st d (.sl t sz x lo hi)=some r) :
  ei C o d a w σ r.2 r.1:=by
 obtain ⟨ty,x',lo',an,S,J,N,aX,O⟩:∃ ty x' lo' an,o.op= .slice ty x' lo' an none∧bY x' x=true∧xA lo' lo=true∧xA an hi=true∧
   (if t=0 then yq C.P ty else kQ C.P ty==some t&&sized C.P t sz)=true:=by
  simp only [bN] at hl;split at hl
  ·rename_i ty x' lo' an hy
   simp only [aL] at hl
   exact ⟨_,_,_,_,hy,hl.1.1.1,hl.1.1.2,hl.1.2,hl.2⟩
  ·cases hl
 have V:∀ A n cap i j,a.eval x'= .slice A n cap→pd st lo 0=some i→pd st hi n=some j→i≤j→j≤cap→t≠0→
   C.P.cellsOf t=sz∧(Go.execOp a.eval o).run C.P w= .ok (.value (.slice (if cap=i then A else A.map (·.add (i*C.P.cellsOf t))) (j - i) (cap - i))) w:=by
  intro A n cap i j hv am ak al aQ ht
  rw [ab ht] at O
  simp only [aL,dH] at O
  obtain ⟨G,D,ag⟩:=nx O.2
  have hu:=NL O.1
  have hb:=zT h (len:=n) (cap:=cap) true N aX am ak al aQ
  refine ⟨D,?_⟩
  unfold Go.execOp
  simp only [S,Instr.sliceAt,Instr.slice,hv,Sem.run_bind,run_underlying hu,Result.andThen_ok,hb,Option.map_none,kr G,Sem.run_pure]
 simp only [execOp] at he
 split at he
 ·rename_i l hx
  obtain ⟨i,am,he⟩:=aj.1 he
  obtain ⟨j,ak,he⟩:=aj.1 he
  split at he
  ·rename_i hc
   simp only [aL,dH,eg] at hc
   obtain ⟨⟨bn,al⟩,aP⟩:=hc
   obtain rfl:=ah he
   have hv:=(hx▸h.e7 J (by rw [hx];simp) (by rw [hx];rfl)).EO
   have hu:=RG (by rw [af bn] at O;exact O)
   have hb:=zT h (len:=l.length) (cap:=l.length) false N aX am ak al aP
   refine .quiet h (cv:=.string ⟨((l.take j).drop i).toArray⟩) ?_ rfl (.s _)
   simp_all [Go.execOp,Instr.sliceAt,Instr.slice,run_underlying,B4,KD]
  ·cases he
 ·rename_i t' es hx
  obtain ⟨i,am,he⟩:=aj.1 he
  obtain ⟨j,ak,he⟩:=aj.1 he
  split at he
  ·rename_i hc
   simp only [aL,uG,eg] at hc
   obtain ⟨⟨⟨ht,aF⟩,al⟩,aP⟩:=hc
   obtain rfl:=ah he
   obtain ⟨A,cap,hv,ao⟩:=(hx▸h.e7 J (by rw [hx];simp) (by rw [hx];rfl)).Lf
   have aQ:j≤cap:=by
    rcases ao with ao | ⟨_,_,_,_,_,_,_,_,_,_,_,_,_,_,_,aT,_⟩
    ·grind
    ·omega
   obtain ⟨D,B⟩:=V A _ cap i j hv am ak al aQ ht
   refine .quiet h B rfl ?_
   have hlen:((es.take j).drop i).length=j - i:=by simp;omega
   by_cases bw:j=i
   ·subst bw
    have:(es.take j).drop j=[]:=by grind
    rw [this,Nat.sub_self]
    exact .lnil _ _ _
   ·rcases ao with ao | ⟨g,b,cs,T,fz,sz',rfl,hI,hh,bp,aJ,Q,aN,hp,h1,aT,a4,a5⟩
    ·grind
    ·have bc:C.P.cellsOf t=sz':=by
      have hm:es[i]? =some (es[i]'(by omega)):=aV _
      have:=bu hm
      rw [D,←Q _ this]
      have:=cI.1 aF _ this
      grind
     rw [ab (by omega),bc,←hlen]
     simp only [jf,add_lit]
     have au:∀ e∈(es.take j).drop i,e∈es:=by grind [List.mem_of_mem_take]
     refine VR.l t' _ g (b+i*sz') (cap - i) cs T fz sz' hI hh bp aJ (fun e he=>Q e (au e he)) ?_ (fun e he=>hp e (au e he)) (fun e he=>h1 e (au e he)) (by rw [hlen];omega) (by omega) fun k e m c hk hm=>?_
     ·rw [hlen]
      have:i*sz'+(j - i)*sz'≤es.length*sz':=by rw [←eY];exact fL _ (by omega)
      omega
     ·have bv:es[i+k]? =some e:=by
       simp_all [mn]
      have:=a5 (i+k) e m c bv hm
      rwa [eY,←yf] at this
  ·cases he
 ·rename_i pl hx
  obtain ⟨⟨t',es⟩,F,he⟩:=aj.1 he
  obtain ⟨i,am,he⟩:=aj.1 he
  obtain ⟨j,ak,he⟩:=aj.1 he
  split at he
  ·rename_i hc
   simp only [aL,uG,dH,eg] at hc
   obtain ⟨⟨⟨ht,bm⟩,al⟩,aP⟩:=hc
   obtain rfl:=ah he
   subst bm
   obtain ⟨m,rfl,hm⟩:=ej hx rfl J
   obtain ⟨A,cap,ax,hle⟩:=h.Hf F
   have hv:a.eval x'= .slice A es.length cap:=((hm▸h.slot J) (by rw [F];rfl)).trans ax
   obtain ⟨D,B⟩:=V A _ cap i j hv am ak al (by omega) ht
   refine .yr h B (fun _ _ e=>by cases e) fun dd=>?_
   intro t2 es2 h2 _
   obtain ⟨rfl,rfl⟩:t'=t2∧es=es2:=by grind
   grind
  ·cases he
 ·cases he
end
variable [cj]
section
variable {C:Cx}{st:St}{a:Act}{w:World}{σ:Sp}{o:Oper}{d:Option Nat}{R:Rec}{Ω:dK}{r:AV×St}
theorem VR.IF{I:Nat→Prop}{κ:Key→Nat}{c:AV}{v:Value}(h:VR w I κ c v)(hc:c.one=true):v.oneCell'=true:=by
 cases h<;>first | rfl | (simp [AV.one] at hc)
theorem VR.cells{I:Nat→Prop}{κ:Key→Nat}{y:AV}{v:Value}(h:VR w I κ y v)(h1:∀ c∈y.cl,c.one=true) :
  y.cl.length=v.cells.size∧∀ (m:Nat)(c:AV),y.cl[m]? =some c→VR w I κ c (v.cells.getD m undef):=by
 by_cases ha:∃ cs,y= .a cs
 ·obtain ⟨cs,rfl⟩:=ha
  obtain ⟨vs,rfl,hl,_,hc⟩:=h.U9
  exact ⟨hl,hc⟩
 ·have aG:y.cl=[y]:=by cases y<;>first | rfl | grind
  have hv:v.cells=#[v]:=by
   have h2:=h1 y (by rw [aG];simp)
   cases h<;>first | rfl | (simp [AV.one] at h2)
  rw [aG,hv]
  refine ⟨rfl,fun m c hm=>?_⟩
  cases m with
  | zero=>
   simp_all
  | succ m=>simp at hm
structure CA(w:World)(I:Nat→Prop)(κ:Key→Nat)(cs:List AV)(vs:Array Value):Prop where
 len:cs.length=vs.size
 one:∀ c∈cs,c.one=true∨c= .u
 cell:∀ (m:Nat)(c:AV),cs[m]? =some c→VR w I κ c (vs.getD m undef)
theorem jx(cs:List AV)(off:Nat)(ys:List AV)(h:off+ys.length≤cs.length)(i:Nat) :
  (putCells cs off ys)[i]? =if off≤i∧i<off+ys.length then ys[i - off]? else cs[i]? :=by
 unfold putCells
 rw [o7,o8]
 grind
theorem ji(cs:List AV)(off:Nat)(ys:List AV)(h:off+ys.length≤cs.length):(putCells cs off ys).length=cs.length:=by
 grind [putCells]
theorem B5(off:Nat):∀ (l:List (Value×Nat))(cells:Array Value),(∀ x∈l,off+x.2<cells.size)→
  (l.foldl (fun cs x=>cs.setIfInBounds (off+x.2) x.1) cells).size=cells.size
 | [],_,_=>rfl
 | x::l,cells,h=>by
  simp only [wh]
  rw [B5 off l _ ((by grind)),Array.size_setIfInBounds]
theorem DS(off:Nat)(us:List Value):∀ (k:Nat)(cells:Array Value),off+k+us.length≤cells.size→
  ∀ i,((us.zipIdx k).foldl (fun cs x=>cs.setIfInBounds (off+x.2) x.1) cells)[i]? =
   if off+k≤i∧i<off+k+us.length then us[i - off - k]? else cells[i]? :=by
 induction us with
 | nil=>
  simp_all [ab]
 | cons u us ih=>
  grind [List.zipIdx_cons]
theorem CA.put{I:Nat→Prop}{κ:Key→Nat}{cs:List AV}{vs:Array Value}(h:CA w I κ cs vs){off:Nat}{ys:List AV}{us:List Value}(hl:ys.length=us.length)
  (ho:off+ys.length≤cs.length) (h1:∀ c∈ys,c.one=true∨c= .u) (hc:∀ (m:Nat)(c:AV),ys[m]? =some c→VR w I κ c (us[m]?.getD undef)) :
  CA w I κ (putCells cs off ys) ((us.zipIdx).foldl (fun cs x=>cs.setIfInBounds (off+x.2) x.1) vs):=by
 have U:((us.zipIdx).foldl (fun cs x=>cs.setIfInBounds (off+x.2) x.1) vs).size=vs.size:=B5 off _ _ fun x hx=>by
  have:=Dp hx
  have:=h.len
  omega
 refine ⟨by rw [ji _ _ _ ho,U,h.len],fun c hm=>?_,fun m c hm=>?_⟩
 ·unfold putCells at hm
  rcases eh.1 hm with hm | hm
  ·rcases eh.1 hm with hm | hm
   ·exact h.one c (iF hm)
   ·exact h1 c hm
  ·exact h.one c (sN hm)
 ·rw [jx _ _ _ ho] at hm
  have hf:=DS off us 0 vs (by have:=h.len;omega) m
  simp only [mo,uH,←hl] at hf
  rw [eL,hf]
  by_cases hi:off≤m∧m<off+ys.length
  ·grind
  ·rw [ab hi] at hm ⊢
   rw [←eL]
   exact h.cell m c hm
theorem run_places(P:Program)(w:World):∀ (fs:List Field),(∀ f∈fs,(P.info? f.type).isSome=true)→
  (fs.mapM (fun f=>do pure (f.offset,←sizeOf f.type):Field→Sem (Nat×Nat))).run P w= .ok (fs.map fun f=>(f.offset,P.cellsOf f.type)) w
 | [],_=>rfl
 | f::fs,h=>by
  rw [wi]
  simp only [Sem.run_bind,kr (h f (by simp)),Result.andThen_ok,Sem.run_pure,run_places P w fs (fun g hg=>h g (by simp [hg])),eu]
theorem LC(h:aw C st a w σ){t:TypeId}{fs:Array Field}(hu:C.P.underlying t=some (.struct fs)) :
  ∀ (ps:List (Nat×Operand))(qs:List (Nat×Nat×bz))(cs:List AV)(vs:Array Value),mx C.P t ps qs=true→CA w σ.I σ.κ cs vs→
   (∀ f∈qs,(st.ev f.2.2).copy=true∧(st.ev f.2.2).nc=f.2.1∧(∀ c∈(st.ev f.2.2).cl,c.one=true)∧f.1+f.2.1≤cs.length)→
   ∃ vs',Instr.fill (fun i=>((fs.toList.map fun f=>(f.offset,C.P.cellsOf f.type)).toArray)[i]?) vs (ps.map fun p=>(p.1,a.eval p.2))=some vs'∧
    CA w σ.I σ.κ (qs.foldl (fun cs f=>putCells cs f.1 (st.ev f.2.2).cl) cs) vs'
 | [],[],cs,vs,_,K,_=>⟨vs,rfl,K⟩
 | (i,y)::ps,(off,sz,x)::qs,cs,vs,hl,K,hq=>by
  simp only [mx,aL] at hl
  obtain ⟨⟨hf,N⟩,X⟩:=hl
  obtain ⟨aZ,Y,h1,hle⟩:=hq (off,sz,x) (by simp)
  simp only at aZ Y h1 hle
  split at hf
  ·rename_i f aR
   simp only [aL,dH] at hf
   obtain ⟨rfl,U⟩:=hf
   obtain ⟨G,D,ag⟩:=nx U
   obtain ⟨fs',bj,bx⟩:=vO aR
   obtain rfl:fs=fs':=by grind
   have hv:=h.ta N aZ
   obtain ⟨aG,a5⟩:=hv.cells h1
   have Q:(st.ev x).cl.length=sz:=Y
   have H:CA w σ.I σ.κ (putCells cs f.offset (st.ev x).cl) (((a.eval y).cells.zipIdx).foldl (fun cs x=>cs.setIfInBounds (f.offset+x.2) x.1) vs):=by
    have:=K.put (off:=f.offset) (ys:=(st.ev x).cl) (us:=(a.eval y).cells.toList) (by simpa using aG) (by omega) (fun c hc=>.inl (h1 c hc)) ((by grind [Array.getD_eq_getD_getElem?]))
    grind [Array.toList_zipIdx]
   have hlen:=ji cs f.offset (st.ev x).cl (by omega)
   obtain ⟨vs',Z,aa⟩:=LC h hu ps qs _ _ X H (fun g hg=>by rw [hlen];exact hq g (by simp [hg]))
   refine ⟨vs',?_,aa⟩
   have aC:((fs.toList.map fun f=>(f.offset,C.P.cellsOf f.type)).toArray)[i]? =some (f.offset,sz):=by
    grind
   have bA:(a.eval y).cells.size=sz:=by omega
   have ac:¬(f.offset+sz>vs.size):=by have:=K.len;omega
   grind [Instr.fill]
  ·cases hf
 | [],_::_,_,_,hl,_,_=>by simp [mx] at hl
 | _::_,[],_,_,hl,_,_=>by simp [mx] at hl
theorem xE{P:Program}{t:TypeId}{v:Value}(h:zeroOf P t=some v):∃ i,P.info? t=some i∧i.zero=some v:=by
 grind [zeroOf,Option.bind_eq_some_iff]
theorem FV{P:Program}{t:TypeId}{v:Value}(h:zeroOf P t=some v)(w:World):(zeroValue t).run P w= .ok v w:=by
 obtain ⟨i,hi,hz⟩:=xE h
 simp [zeroValue,typeInfo,hi,hz]
theorem KE{cs ys:List AV}{off:Nat}{c:AV}(h:c∈putCells cs off ys):c∈cs∨c∈ys:=by
 grind [putCells]
theorem LD:∀ (qs:List (Nat×Nat×bz))(cs:List AV),(∀ c∈cs,c.one=true)→(∀ f∈qs,∀ c∈(st.ev f.2.2).cl,c.one=true)→∀ c∈qs.foldl (fun cs f=>putCells cs f.1 (st.ev f.2.2).cl) cs,c.one=true
 | [],_,h,_=>h
 | q::qs,cs,h,hq=>LD qs _ ((by grind [KE])) fun f hf=>hq f (by simp [hf])
theorem acy{zs:List AV}{fs:List (Nat×Nat×bz)}(h:aw C st a w σ)(hl:bN C.P (.bd zs fs) o.op=true)(he:execOp R Ω C.E st d (.bd zs fs)=some r) :
  ei C o d a w σ r.2 r.1:=by
 simp only [bN] at hl
 split at hl
 ·rename_i t parts S
  simp only [aL] at hl
  obtain ⟨⟨hz,M⟩,aM⟩:=hl
  split at hz
  ·rename_i v be
   simp only [aL] at hz
   split at aM
   ·rename_i fds hu
    simp only [execOp] at he
    split at he
    ·rename_i aF
     cases he
     have ap:∀ f∈fs,(st.ev f.2.2).copy=true∧(st.ev f.2.2).nc=f.2.1∧(∀ c∈(st.ev f.2.2).cl,c.one=true)∧f.1+f.2.1≤zs.length:=by
      grind
     obtain ⟨hlen,aS⟩:=sX (w:=w) (I:=σ.I) (κ:=σ.κ) v.cells.toList zs hz.1
     have K:CA w σ.I σ.κ zs v.cells:=⟨by grind,by grind,by grind [Array.getD_eq_getD_getElem?]⟩
     obtain ⟨vs',Z,H⟩:=LC h hu parts.toList fs zs v.cells M K ap
     have G:∀ f∈fds.toList,(C.P.info? f.type).isSome=true:=by grind [Array.all_eq_true_iff_forall_mem]
     have ai:=run_places C.P w fds.toList G
     have B:(Go.execOp a.eval o).run C.P w= .ok (.value (.agg vs')) w:=by
      simp_all [Go.execOp,Instr.build,FV,run_underlying,Dq]
     refine .jh B ⟨.refl _ _ _,h,fun _ _=>kR (.a _ _ H.len (LD fs zs ((by grind)) fun f hf=>(ap f hf).2.2.1) H.cell),fun _ _ _ _ e=>by cases e⟩
    ·cases he
   ·cases aM
  ·cases hz
 ·cases hl
structure CG(w:World)(σ:Sp)(a:Act)(acc:List AV×List (Nat×Nat))(vs:Array Value):Prop where
 len:acc.1.length=vs.size
 one:∀ c∈acc.1,c.one=true∨c= .u
 cell:∀ (m:Nat)(c:AV),acc.1[m]? =some c→VR w σ.I σ.κ c (vs.getD m undef)
 row:∀ q∈acc.2,q.1<vs.size∧vs.getD q.1 undef=a.tmps.getD q.2 undef
theorem CG.put{acc:List AV×List (Nat×Nat)}{rs:List (Nat×Nat)}{vs:Array Value}(h:CG w σ a acc vs){off:Nat}{ys:List AV}{us:List Value}(hl:ys.length=us.length)
  (ho:off+ys.length≤acc.1.length) (h1:∀ c∈ys,c.one=true∨c= .u) (hc:∀ (m:Nat)(c:AV),ys[m]? =some c→VR w σ.I σ.κ c (us[m]?.getD undef))
  (hr:∀ q∈rs,(q∈acc.2∧¬(off≤q.1∧q.1<off+ys.length))∨(q.1=off∧us[0]? =some (a.tmps.getD q.2 undef))) :
  CG w σ a (putCells acc.1 off ys,rs) ((us.zipIdx).foldl (fun cs x=>cs.setIfInBounds (off+x.2) x.1) vs):=by
 have K:CA w σ.I σ.κ acc.1 vs:=⟨h.len,h.one,h.cell⟩
 have hp:=K.put hl ho h1 hc
 refine ⟨hp.len,hp.one,hp.cell,fun q hq=>?_⟩
 have U:((us.zipIdx).foldl (fun cs x=>cs.setIfInBounds (off+x.2) x.1) vs).size=vs.size:=B5 off _ _ fun x hx=>by
  have:=Dp hx
  have:=h.len
  omega
 have hf:=DS off us 0 vs (by have:=h.len;omega) q.1
 simp only [mo,uH,←hl] at hf
 rw [U,eL,hf]
 rcases hr q hq with ⟨h2,h3⟩ | ⟨h2,h3⟩
 ·rw [ab h3,←eL]
  exact h.row q h2
 grind
theorem RH{t:TypeId}{es:List AV}{L:eI}{wr:Prop}{P:Program}{W:Nat→Prop}{v:Value}(h:OwnAt P W w σ L wr t es v):v.cells=#[v]:=by
 rcases h with ⟨_,rfl⟩ | ⟨g,cap,cs,rfl,_⟩<;>rfl
theorem JW(h:aw C st a w σ){t:TypeId}{fs:Array Field}(hu:C.P.underlying t=some (.struct fs)){n:Nat} :
  ∀ (ps:List (Nat×Operand))(qs:List (Nat×Nat×bz))(acc:List AV×List (Nat×Nat))(vs:Array Value),acc.1.length=n→mx C.P t ps qs=true→CG w σ a acc vs→
   (∀ f∈qs,PD st n f=true)→
   ∃ vs',Instr.fill (fun i=>((fs.toList.map fun f=>(f.offset,C.P.cellsOf f.type)).toArray)[i]?) vs (ps.map fun p=>(p.1,a.eval p.2))=some vs'∧
    CG w σ a (qs.foldl (wA st) acc) vs'
 | [],[],acc,vs,_,_,K,_=>⟨vs,rfl,K⟩
 | (i,y)::ps,(off,sz,x)::qs,acc,vs,hn,hl,K,hq=>by
  simp only [mx,aL] at hl
  obtain ⟨⟨hf,N⟩,X⟩:=hl
  have hb:=hq (off,sz,x) (by simp)
  simp only [PD,aL,eg] at hb
  obtain ⟨hb,hle⟩:=hb
  split at hf
  ·rename_i f aR
   simp only [aL,dH] at hf
   obtain ⟨rfl,U⟩:=hf
   obtain ⟨G,D,ag⟩:=nx U
   obtain ⟨fs',bj,bx⟩:=vO aR
   obtain rfl:fs=fs':=by grind
   have aK:(a.eval y).cells.size=sz∧(wA st acc (f.offset,sz,x)).1.length=n∧CG w σ a (wA st acc (f.offset,sz,x)) (((a.eval y).cells.zipIdx).foldl (fun cs x=>cs.setIfInBounds (f.offset+x.2) x.1) vs):=by
    unfold wA
    simp only
    cases av:rowOf st x with
    | some m=>
     rw [av] at hb
     have bC:sz=1:=by simpa using hb
     cases x with
     | c z=>simp [rowOf] at av
     | t m'=>
      simp only [rowOf] at av
      split at av
      ·rename_i tt es hx
       obtain rfl:=ah av
       have ho:=h.slot N
       rw [hx] at ho
       have bB:=RH (show OwnAt _ _ _ _ _ _ _ _ _ from ho)
       have bE:a.eval y=a.tmps.getD m' undef:=by rw [yb N];rfl
       refine ⟨by grind,by grind [ji],?_⟩
       have:=K.put (off:=f.offset) (ys:=[.u]) (us:=(a.eval y).cells.toList) (rs:=(f.offset,m')::acc.2.filter fun q=>q.1 !=f.offset) (by rw [bB];rfl) (by simp;omega) (fun c hc=>.inr (by simpa using hc)) (fun m c hm=>by
        match m,hm with
        | 0,hm=>cases hm;exact .u _) ((by grind))
       grind
      ·cases av
    | none=>
     rw [av] at hb
     simp only [aL,dH] at hb
     obtain ⟨⟨aZ,Y⟩,h1⟩:=hb
     have bb:∀ c∈(st.ev x).cl,c.one=true:=by grind
     have hv:=h.ta N aZ
     obtain ⟨aG,a5⟩:=hv.cells bb
     have Q:(st.ev x).cl.length=sz:=Y
     refine ⟨by omega,by grind [ji],?_⟩
     have:=K.put (off:=f.offset) (ys:=(st.ev x).cl) (us:=(a.eval y).cells.toList) (rs:=acc.2.filter fun q=>!(decide (f.offset≤q.1)&&decide (q.1<f.offset+sz))) (by simpa using aG) (by omega) (fun c hc=>.inl (bb c hc)) ((by grind [Array.getD_eq_getD_getElem?])) ((by grind))
     grind [Array.toList_zipIdx]
   obtain ⟨bA,hlen,H⟩:=aK
   obtain ⟨vs',Z,aa⟩:=JW h hu ps qs _ _ hlen X H (fun g hg=>hq g (by simp [hg]))
   refine ⟨vs',?_,aa⟩
   have aC:((fs.toList.map fun f=>(f.offset,C.P.cellsOf f.type)).toArray)[i]? =some (f.offset,sz):=by
    grind
   have ac:¬(f.offset+sz>vs.size):=by have:=K.len;omega
   grind [Instr.fill]
  ·cases hf
 | [],_::_,_,_,_,hl,_,_=>by simp [mx] at hl
 | _::_,[],_,_,_,hl,_,_=>by simp [mx] at hl
theorem acz{zs:List AV}{fs:List (Nat×Nat×bz)}(h:aw C st a w σ)(hl:bN C.P (.bg zs fs) o.op=true)(he:execOp R Ω C.E st d (.bg zs fs)=some r) :
  ei C o d a w σ r.2 r.1:=by
 simp only [bN] at hl
 split at hl
 ·rename_i t parts S
  simp only [aL] at hl
  obtain ⟨⟨hz,M⟩,aM⟩:=hl
  split at hz
  ·rename_i v be
   simp only [aL] at hz
   split at aM
   ·rename_i fds hu
    simp only [execOp] at he
    split at he
    ·rename_i aF
     cases he
     obtain ⟨hlen,aS⟩:=sX (w:=w) (I:=σ.I) (κ:=σ.κ) v.cells.toList zs hz.1
     have K:CG w σ a (zs,[]) v.cells:=⟨by grind,by grind,by grind [Array.getD_eq_getD_getElem?],fun q hq=>by cases hq⟩
     obtain ⟨vs',Z,H⟩:=JW h hu parts.toList fs (zs,[]) v.cells rfl M K ((by grind))
     have G:∀ f∈fds.toList,(C.P.info? f.type).isSome=true:=by grind [Array.all_eq_true_iff_forall_mem]
     have ai:=run_places C.P w fds.toList G
     have B:(Go.execOp a.eval o).run C.P w= .ok (.value (.agg vs')) w:=by
      simp_all [Go.execOp,Instr.build,FV,run_underlying,Dq]
     exact .jh B ⟨.refl _ _ _,h,fun _ _=>⟨vs',rfl,H.len,H.one,H.cell,fun q hq _=>(H.row q hq).2⟩,fun _ _ _ _ e=>by cases e⟩
    ·cases he
   ·cases aM
  ·cases hz
 ·cases hl
end
end Go.Proofs.YtlmphbbhaeampaaGreat.A
