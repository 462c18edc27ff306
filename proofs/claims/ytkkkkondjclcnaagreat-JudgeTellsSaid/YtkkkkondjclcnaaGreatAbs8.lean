/- Addresses of elements, sums and comparisons, lengths, pieces: the model does what the abstract run says. -/
import Derived.Test.YtkkkkondjclcnaaGreatAbs4
set_option linter.all false
namespace Go.Proofs.YtkkkkondjclcnaaGreat.A
open Go
variable [bM]
section
variable {C:Cx}{st:St}{a:Act}{w:World}{σ:Sp}{o:Oper}{d:Option Nat}{R:Rec}{Ω:ef}{r:AV×St}
theorem FZ{x:AV}{j:Nat}(h:sX x=some j):∃ k n,x= .i k n∧0≤n∧n.toNat=j:=by
 cases x<;>simp [sX] at h
 grind
theorem pL{P:Program}{t sz:Nat}(h:sized P t sz=true):(P.info? t).isSome=true∧P.cellsOf t=sz∧0<sz:=by
 grind [sized]
theorem we{sz:Nat}{e:Option AV}{f:AV→AV}(h:elemAt sz st e f=some r):∃ x,e=some x∧x.nc=sz∧r=(f x,st):=by
 grind [elemAt,Option.bind_eq_some_iff]
theorem dB{α:Type}{l:List α}{i:Nat}{x:α}(h:l[i]? =some x):i<l.length:=by
 grind
theorem afm{sz:Nat}{arr:Option Nat}{x i:aY}(h:aq C st a w σ)(hl:bG C.P (.ia sz arr x i) o.op=true)(he:execOp R Ω C.E st d (.ia sz arr x i)=some r) :
  eM C o d a w σ r.2 r.1:=by
 obtain ⟨t,x',i',L,H,bj,J⟩:∃ t x' i',o.op= .indexAddr t x' i'∧bR x' x=true∧bR i' i=true∧
   ((arr=none∧∃ e,C.P.underlying t=some (.slice e)∧sized C.P e sz=true)∨∃ n e,arr=some n∧C.P.underlying t=some (.array n e)∧sized C.P e sz=true):=by
  simp only [bG] at hl;grind
 simp only [execOp] at he
 obtain ⟨j,hj,he⟩:=ah.1 he
 obtain ⟨k,n,hi,a3,rfl⟩:=FZ hj
 have a0:=(hi▸h.fJ bj (by rw [hi];simp) (by rw [hi];rfl)).kB
 rcases J with ⟨rfl,e,hu,Q⟩ | ⟨len,e,rfl,hu,Q⟩
 ·obtain ⟨G,D,am⟩:=pL Q
  have B:∀ g b len cap,a.eval x'= .slice (some ⟨g,b,none⟩) len cap→n.toNat<len→
    (Go.execOp a.eval o).run C.P w= .ok (.value (.pointer (some ⟨g,b+n.toNat*sz,none⟩))) w:=by
   intro g b len cap hv U
   unfold Go.execOp
   have:0≤n∧n<(len:Int):=⟨a3,by omega⟩
   simp [L,hv,a0,Instr.indexAt,asIntOf,run_underlying hu,this,lg G,D,add_lit]
  simp only at he
  split at he
  ·rename_i t' es hx
   obtain ⟨e',O,S,rfl⟩:=we he
   have U:=dB O
   obtain ⟨A,cap,hv,ac⟩:=(hx▸h.fJ H (by rw [hx];simp) (by rw [hx];rfl)).N1
   rcases ac with ac | ⟨g,b,cs,T,fz,sz',rfl,hI,hh,ht,aA,M,aB,hp,h1,aI,aW,hc⟩
   ·grind
   ·have hm:=bg O
    obtain rfl:sz=sz':=S.symm.trans (M e' hm)
    refine .quiet h (B _ _ _ _ hv U) rfl ?_
    refine VR.e e' 0 g (b+n.toNat*sz) cs T fz hI hh (hp e' hm) ?_ (h1 e' hm) (by grind)
    rw [S]
    have:(n.toNat+1)*sz≤es.length*sz:=gK _ (by omega)
    grind
  ·rename_i t' es hx
   cases x with
   | c z=>cases he
   | t m=>
    simp only at he
    obtain ⟨e',O,S,rfl⟩:=we he
    have U:=dB O
    have aR:au st.fr m= .o t' es:=hx
    have F:st.rowAt C.E.dp (.s m)=some (t',es):=by simp [St.rowAt,aR]
    obtain ⟨g,cap,cs,al,hR⟩:=h.D8 F (fun e=>by grind)
    have hv:a.eval x'= .slice (some ⟨g,0,none⟩) es.length cap:=by rw [CX H];exact al
    refine .AQ h (B _ _ _ _ hv U) (fun _ _ e=>by cases e) fun dd=>?_
    intro t2 es2 h2 a4
    grind
  ·rename_i pl hx
   obtain ⟨⟨t',es⟩,F,he⟩:=ah.1 he
   obtain ⟨e',O,S,rfl⟩:=we he
   have U:=dB O
   obtain ⟨m,rfl,hm⟩:=eN hx rfl H
   have hs:=hm▸h.slot H
   have hv:a.eval x'=gm w σ a pl:=hs (by rw [F];rfl)
   obtain ⟨g,cap,cs,al,hR⟩:=h.D8 F (fun e=>by grind)
   refine .AQ h (B _ _ _ _ (hv.trans al) U) (fun _ _ e=>by cases e) fun dd=>?_
   intro t2 es2 h2 a4
   grind
  ·rename_i pl lo len hx
   split at he
   ·rename_i aF
    obtain ⟨⟨t',es⟩,F,he⟩:=ah.1 he
    split at he
    ·rename_i aN
     obtain ⟨e',O,S,rfl⟩:=we he
     simp only at aN O
     have U:=dB O
     obtain ⟨m,rfl,hm⟩:=eN hx rfl H
     obtain ⟨A,n',cap,al,hv⟩:=(hm▸h.slot H) t' es F aN
     obtain ⟨g,cap',cs,aT,hR⟩:=h.D8 F (fun e=>by grind)
     obtain ⟨rfl,rfl,rfl⟩:A=some ⟨g,0,none⟩∧n'=es.length∧cap=cap':=by
      grind
     have bu:=hR.ecap
     have aS:C.P.cellsOf t'=sz:=(hR.nc e' (bg O)).symm.trans S
     rw [aa (by omega),aS] at hv
     simp only [fE,add_lit,gh] at hv
     refine .AQ h (B _ _ _ _ hv aF) (fun _ _ e=>by cases e) fun dd=>?_
     intro t2 es2 h2 a4
     grind [Nat.add_mul]
    ·cases he
   ·cases he
  ·rename_i k b m s hx
   split at he
   ·rename_i hc
    obtain rfl:=af he
    obtain ⟨cap,_,_,hv⟩:=(hx▸h.fJ H (by rw [hx];simp) (by rw [hx];rfl)).UG
    exact .quiet h (B _ _ _ _ hv hc.1) rfl (.p _ _)
   ·cases he
  ·cases he
 ·obtain ⟨G,D,am⟩:=pL Q
  simp only at he
  split at he
  ·rename_i U
   have B:∀ g b,a.eval x'= .pointer (some ⟨g,b,none⟩)→(Go.execOp a.eval o).run C.P w= .ok (.value (.pointer (some ⟨g,b+n.toNat*sz,none⟩))) w:=by
    intro g b hv
    unfold Go.execOp
    have:0≤n∧n<(len:Int):=⟨a3,by omega⟩
    simp [L,hv,a0,Instr.indexAt,asIntOf,run_underlying hu,this,lg G,D,add_lit,Instr.sureAddr]
   split at he
   ·rename_i k b hx
    obtain rfl:=af he
    have hv:=(hx▸h.fJ H (by rw [hx];simp) (by rw [hx];rfl)).zS
    exact .quiet h (B _ _ hv) rfl (.p _ _)
   ·rename_i z b hx
    obtain rfl:=af he
    obtain ⟨g,b',cs,T,fz,hv,hI,hh,bi,hs,h1,hc⟩:=(hx▸h.fJ H (by rw [hx];simp) (by rw [hx];rfl)).N0
    exact .quiet h (by grind) rfl (.e z _ g b' cs T fz hI hh bi hs h1 hc)
   ·cases he
  ·cases he
theorem OF(l m:List UInt8):(⟨l.toArray⟩:ByteArray)++⟨m.toArray⟩=⟨(l++m).toArray⟩:=by
 apply Go.WideShapes.bytes_inj
 simp
theorem D9(l:List UInt8):(⟨l.toArray⟩:ByteArray).size=l.length:=by simp [ByteArray.size]
theorem JM(l:List UInt8):(⟨l.toArray⟩:ByteArray).toList=l:=by simp [ByteArray.toList_eq]
theorem Nf(l:List UInt8)(i j:Nat):(⟨l.toArray⟩:ByteArray).extract i j=⟨((l.take j).drop i).toArray⟩:=by
 apply Go.WideShapes.bytes_inj
 simp [ByteArray.data_extract,List.drop_take]
theorem QB(op:BinOp)(t:TypeId)(x y:Operand)(k k':IntKind)(m n:Int):eqGuard op t x y (.int k m) (.int k' n)=pure ():=by
 simp_all [eqGuard]
theorem F0(op:BinOp)(t:TypeId)(x y:Operand)(m n:Bool):eqGuard op t x y (.bool m) (.bool n)=pure ():=by
 simp_all [eqGuard]
theorem xm(op:BinOp)(t:TypeId)(x y:Operand)(m n:ByteArray):eqGuard op t x y (.string m) (.string n)=pure ():=by
 simp_all [eqGuard]
theorem JN{P:Program}{I:Nat→Prop}{κ:Key→Nat}(dd:Nat)(vs ws:Array Value):∀ (fs:List Field)(i:Nat)(ks:List Nat)(xs ys:List AV)(b:Bool),s9 P i ks fs=true→kr ks xs ys=some b→
  (∀ (j:Nat)(c:AV),xs[j]? =some c→i+j<vs.size∧VR w I κ c (vs.getD (i+j) undef))→(∀ (j:Nat)(c:AV),ys[j]? =some c→i+j<ws.size∧VR w I κ c (ws.getD (i+j) undef))→
  (Op.eqFields (dd+1) vs ws fs).run P w= .ok b w
 | [],i,ks,xs,ys,b,hf,he,hx,hy=>by
  cases ks with
  | nil=>
   cases xs<;>cases ys<;>simp only [kr] at he<;>try contradiction
   obtain rfl:=af he
   simp [Op.eqFields]
  | cons k ks=>simp [s9] at hf
 | f::fs,i,ks,xs,ys,b,hf,he,hx,hy=>by
  cases ks with
  | nil=>simp [s9] at hf
  | cons k ks=>
   simp only [s9,aC,uP,ne_eq,eh] at hf
   obtain ⟨⟨⟨⟨h1,h2⟩,h3⟩,h4⟩,h5⟩:=hf
   cases xs with
   | nil=>grind [kr]
   | cons x xs=>
   cases ys with
   | nil=>grind [kr]
   | cons y ys=>
   obtain ⟨sx,vx⟩:=hx 0 x rfl
   obtain ⟨sy,vy⟩:=hy 0 y rfl
   rw [oC] at sx sy vx vy
   rw [dK,kP sx] at vx
   rw [dK,kP sy] at vy
   simp only [vp] at vx vy
   have p1:=run_part_plain (w:=w) h3 (kP sx)
   have p2:=run_part_plain (w:=w) h3 (kP sy)
   have aR:∀ (j:Nat)(c:AV),xs[j]? =some c→i+1+j<vs.size∧VR w I κ c (vs.getD (i+1+j) undef):=fun j c hc=>by
    have:=hx (j+1) c (by simpa using hc)
    grind
   have a9:∀ (j:Nat)(c:AV),ys[j]? =some c→i+1+j<ws.size∧VR w I κ c (ws.getD (i+1+j) undef):=fun j c hc=>by
    have:=hy (j+1) c (by simpa using hc)
    rwa [show i+(j+1)=i+1+j by omega] at this
   have step:∀ (q r:Bool),(Op.equalIn (dd+1) f.type vs[i] ws[i]).run P w= .ok q w→kr ks xs ys=some r→(q&&r)=b→(Op.eqFields (dd+1) vs ws (f::fs)).run P w= .ok b w:=by
    intro q r hq hr hb
    have ih:=JN dd vs ws fs (i+1) ks xs ys r h5 hr aR a9
    simp only [Op.eqFields,h1,ne_eq,BA,az,Sem.run_bind,h2,p1,p2,hq,Result.andThen_ok]
    cases q with
    | false=>
      obtain rfl:false=b:=hb
      simp
    | true=>
     obtain rfl:r=b:=hb
     simpa using ih
   unfold kr at he
   split at he
   ·grind
   ·rename_i aE ay ax
    obtain ⟨rfl,rfl⟩:=pU aE
    obtain ⟨rfl,rfl⟩:=pU ay
    obtain ⟨rfl,rfl⟩:=pU ax
    obtain ⟨r,hr,rfl⟩:=db.1 he
    split at h4<;>try contradiction
    rename_i hu
    exact step _ r (by rw [vx.rE,vy.rE];grind [run_equalIn_bool']) hr rfl
   ·rename_i aE ay ax
    obtain ⟨rfl,rfl⟩:=pU aE
    obtain ⟨rfl,rfl⟩:=pU ay
    obtain ⟨rfl,rfl⟩:=pU ax
    split at he
    ·rename_i bm
     subst bm
     obtain ⟨r,hr,rfl⟩:=db.1 he
     split at h4<;>try contradiction
     rename_i hu
     exact step _ r (by rw [vx.kB,vy.kB];grind [run_equalIn_int]) hr rfl
    ·cases he
   ·rename_i aE ay ax
    obtain ⟨rfl,rfl⟩:=pU aE
    obtain ⟨rfl,rfl⟩:=pU ay
    obtain ⟨rfl,rfl⟩:=pU ax
    obtain ⟨r,hr,rfl⟩:=db.1 he
    split at h4<;>try contradiction
    rename_i hu
    refine step _ r ?_ hr rfl
    rw [vx.G3,vy.G3,run_equalIn_string w dd f.type _ _ hu]
    simp [ByteArray.toList_eq]
   ·cases he
theorem afn{ks:List Nat}{ng:Bool}{x y:aY}(h:aq C st a w σ)(hl:bG C.P (.ae ks ng x y) o.op=true)(he:execOp R Ω C.E st d (.ae ks ng x y)=some r) :
  eM C o d a w σ r.2 r.1:=by
 obtain ⟨t,x',y',t',op,L,aU,H,ao,aw⟩:∃ t x' y' t' op,o.op= .binOp op t x' y' t'∧op=(if ng then BinOp.neq else .eql)∧bR x' x=true∧bR y' y=true∧S0 C.P ks t=true:=by
  simp only [bG] at hl;grind
 simp only [execOp] at he
 split at he
 ·rename_i xs ys hx hy
  obtain ⟨q,hq,he⟩:=ah.1 he
  obtain rfl:=af he
  have aj:=hx▸h.fJ H (by rw [hx];simp) (by rw [hx];rfl)
  have ai:=hy▸h.fJ ao (by rw [hy];simp) (by rw [hy];rfl)
  generalize bb:a.eval x'=vx at aj
  generalize ba:a.eval y'=vy at ai
  cases aj with | a _ vs sx _ cx=>
  cases ai with | a _ ws sy _ cy=>
  unfold S0 at aw
  split at aw
  ·rename_i fs hu
   simp only [aC,Bool.not_eq_eq_eq_not,uS] at aw
   obtain ⟨⟨f1,f2⟩,f3⟩:=aw
   have aX:C.P.fieldsOf t=fs:=by simp [Program.fieldsOf,hu]
   have B:(Op.equal t (.agg vs) (.agg ws)).run C.P w= .ok q w:=by
    show (Op.equalIn (9999+1) t (.agg vs) (.agg ws)).run C.P w= .ok q w
    rw [run_equalIn_struct w 9999 t vs ws (by grind) f2,aX]
    exact JN 9998 vs ws fs.toList 0 ks xs ys q f1 hq
     (fun j c hc=>⟨by have:=(eb.1 hc).1;omega,by simpa using cx j c hc⟩)
     ((by grind))
   have ap:(eqGuard op t x' y' (.agg vs) (.agg ws)).run C.P w= .ok () w:=by
    simp_all [eqGuard]
   refine .quiet h (cv:=.bool (if ng then !q else q)) ?_ rfl (.b _)
   unfold Go.execOp
   subst aU
   cases ng<;>simp [L,bb,ba,ap,Go.binOp,B]<;>simp_all
  ·cases aw
 ·cases he
theorem afo{op:BinOp}{bl:Bool}{x y:aY}(h:aq C st a w σ)(hl:bG C.P (.bo op bl x y) o.op=true)(he:execOp R Ω C.E st d (.bo op bl x y)=some r) :
  eM C o d a w σ r.2 r.1:=by
 by_cases hm:op= .or
 ·
  subst hm
  obtain ⟨c,x',y',L,aZ,aK,H,ao⟩:∃ c x' y',o.op= .call c∧c.callee= .builtin .max∧c.args.toList=[x',y']∧bR x' x=true∧bR y' y=true:=by
   simp only [bG] at hl;grind
  have av:c.args=#[x',y']:=by grind
  simp only [execOp] at he
  obtain ⟨z,hz,he⟩:=ah.1 he
  obtain rfl:=af he
  unfold rn at hz
  split at hz
  ·rename_i k m k' n hx hy
   have aj:=(hx▸h.fJ H (by rw [hx];simp) (by rw [hx];rfl)).kB
   have ai:=(hy▸h.fJ ao (by rw [hy];simp) (by rw [hy];rfl)).kB
   split at hz
   ·obtain rfl:=af hz
    refine .quiet h (cv:=.int k (if n>m then n else m)) ?_ rfl (.i _ _)
    simp_all [Go.execOp,run_max_int2,resolve,invoke,builtin]
   ·cases hz
  ·grind
  ·cases hz
  ·cases hz
 obtain ⟨t,x',y',t',L,H,ao,bx⟩:∃ t x' y' t',o.op= .binOp op t x' y' t'∧bR x' x=true∧bR y' y=true∧bl=Lc C.P t:=by
  simp only [bG] at hl;grind
 simp only [execOp] at he
 obtain ⟨z,hz,he⟩:=ah.1 he
 obtain rfl:=af he
 unfold rn at hz
 split at hz
 ·rename_i k m k' n hx hy
  have aj:=(hx▸h.fJ H (by rw [hx];simp) (by rw [hx];rfl)).kB
  have ai:=(hy▸h.fJ ao (by rw [hy];simp) (by rw [hy];rfl)).kB
  split at hz
  ·rename_i hk
   subst hk
   have key:∀ cv,(Go.binOp op t (.int k m) (.int k n)).run C.P w= .ok cv w→z.copy=true→VR w σ.I σ.κ z cv→eM C o d a w σ st z:=by
    intro cv B hc hv
    refine .quiet h (cv:=cv) ?_ hc hv
    simp_all [Go.execOp,QB]
   cases op<;>simp only [u9] at hz<;>first
    | exact absurd rfl hm
    | (cases hz;done)
    | (obtain rfl:=af hz;exact key _ (by simp [Go.binOp,Op.intArith]) rfl (.i _ _))
    | (obtain rfl:=af hz;exact key _ (by simp [Go.binOp,Op.intCmp]) rfl (.b _))
    | skip
   ·split at hz
    ·cases hz
    ·rename_i hn
     obtain rfl:=af hz
     exact key _ (by simp [Go.binOp,Op.intDiv,hn]) rfl (.i _ _)
   ·split at hz
    ·cases hz
    ·rename_i hn
     obtain rfl:=af hz
     exact key _ (by simp [Go.binOp,Op.intDiv,hn]) rfl (.i _ _)
  ·cases hz
 ·rename_i m n hx hy
  have aj:=(hx▸h.fJ H (by rw [hx];simp) (by rw [hx];rfl)).rE
  have ai:=(hy▸h.fJ ao (by rw [hy];simp) (by rw [hy];rfl)).rE
  split at hz
  ·rename_i hb
   have hu:C.P.underlying t=some .bool:=by
    grind [Lc]
   have ar:=run_eql_bool (P:=C.P) w t m n hu
   have bv:(Go.binOp .neq t (.bool m) (.bool n)).run C.P w= .ok (.bool (!(m==n))) w:=by
    simp only [Go.binOp] at ar ⊢
    simp only [Sem.run_bind,Sem.run_pure] at ar ⊢
    cases hq:(Op.equal t (.bool m) (.bool n)).run C.P w with
    | ok x w'=>simp only [hq,Result.andThen_ok,Result.ok.injEq,Value.bool.injEq] at ar ⊢;exact ⟨by rw [ar.1],ar.2⟩
    | halt x w'=>simp [hq] at ar
   split at hz
   ·obtain rfl:=af hz
    refine .quiet h (cv:=.bool (m==n)) ?_ rfl (.b _)
    unfold Go.execOp
    simp only [L,aj,ai,F0,Sem.run_bind,Sem.run_pure,Result.andThen_ok,ar]
   ·obtain rfl:=af hz
    refine .quiet h (cv:=.bool (!(m==n))) ?_ rfl (.b _)
    grind [Go.execOp,F0,Sem.run_bind,Sem.run_pure,Result.andThen_ok]
   ·cases hz
  ·cases hz
 ·rename_i m n hx hy
  have aj:=(hx▸h.fJ H (by rw [hx];simp) (by rw [hx];rfl)).G3
  have ai:=(hy▸h.fJ ao (by rw [hy];simp) (by rw [hy];rfl)).G3
  split at hz
  ·split at hz
   ·rename_i hle
    obtain rfl:=af hz
    refine .quiet h (cv:=.string ⟨(m++n).toArray⟩) ?_ rfl (.s _)
    unfold Go.execOp
    have:¬(((m.length+n.length:Nat):Int)>IntKind.i64.max):=by
     grind [IntKind.max,IntKind.bits]
    grind [xm,Sem.run_pure,Go.binOp,Op.stringOp,D9,OF]
   ·cases hz
  ·obtain rfl:=af hz
   refine .quiet h (cv:=.bool (m==n)) ?_ rfl (.b _)
   grind [Go.execOp,xm,Sem.run_pure,Go.binOp,Op.stringOp,JM]
  ·obtain rfl:=af hz
   refine .quiet h (cv:=.bool (!(m==n))) ?_ rfl (.b _)
   grind [Go.execOp,xm,Sem.run_pure,Go.binOp,Op.stringOp,JM]
  ·cases hz
 ·cases hz
theorem aq.len(h:aq C st a w σ){y:Operand}{x:aY}{q:TypeId×List AV}(hl:bR y x=true)(he:st.elems C.E.dp (st.ev x)=some q) :
  ∃ A cap,a.eval y= .slice A q.2.length cap∧q.2.length≤cap:=by
 cases hx:st.ev x with
 | l t es=>
  rw [hx] at he
  obtain rfl:=af he
  obtain ⟨A,cap,hv,ac⟩:=(hx▸h.fJ hl (by rw [hx];simp) (by rw [hx];rfl)).N1
  grind
 | n=>
  rw [hx] at he
  obtain rfl:=af he
  exact ⟨_,_,(hx▸h.fJ hl (by rw [hx];simp) (by rw [hx];rfl)).G6,aV _⟩
 | o t es=>
  rw [hx] at he
  obtain rfl:=af he
  obtain ⟨n,rfl,hn⟩:=eN hx rfl hl
  have F:st.rowAt C.E.dp (.s n)=some (t,es):=by simp [St.rowAt,hn]
  obtain ⟨A,cap,hv,hle⟩:=h.JL F
  exact ⟨A,cap,by rw [CX hl];exact hv,hle⟩
 | r pl=>
  rw [hx] at he
  obtain ⟨n,rfl,hn⟩:=eN hx rfl hl
  have F:st.rowAt C.E.dp pl=some q:=he
  obtain ⟨A,cap,hv,hle⟩:=h.JL (t:=q.1) (es:=q.2) F
  exact ⟨A,cap,((hn▸h.slot hl) (by rw [F];rfl)).trans hv,hle⟩
 | v pl lo len=>
  rw [hx] at he
  obtain ⟨n,rfl,hn⟩:=eN hx rfl hl
  simp only [St.elems] at he
  split at he
  ·rename_i t es F
   split at he
   ·rename_i aN
    obtain rfl:=af he
    obtain ⟨A,n',cap,al,hv⟩:=(hn▸h.slot hl) t es F aN
    obtain ⟨A',cap',aT,hle⟩:=h.JL F
    grind
   ·cases he
  ·cases he
 | _=>rw [hx] at he;cases he
theorem afp{str:Bool}{x:aY}(h:aq C st a w σ)(hl:bG C.P (.ln str x) o.op=true)(he:execOp R Ω C.E st d (.ln str x)=some r) :
  eM C o d a w σ r.2 r.1:=by
 obtain ⟨c,y,t,L,aZ,aK,bc,N,J⟩:∃ c y t,o.op= .call c∧c.callee= .builtin .len∧c.args.toList=[y]∧c.argTypes.toList=[t]∧bR y x=true∧
   (if str then AP C.P t else (lD C.P t).isSome)=true:=by
  simp only [bG] at hl;grind
 have av:c.args=#[y]:=by grind
 have a1:c.argTypes=#[t]:=by grind
 have B:∀ cv,(Builtin.len_ #[t] o.type #[a.eval y]).run C.P w= .ok cv w→(Go.execOp a.eval o).run C.P w= .ok (.value cv) w:=by
  simp_all [Go.execOp,resolve,invoke,builtin]
 simp only [execOp] at he
 split at he
 ·rename_i l hx
  split at he
  ·rename_i hs
   obtain rfl:=af he
   rw [hs] at J
   simp only [az] at J
   have hu:C.P.underlying t=some .string:=by
    grind [AP]
   have hv:=(hx▸h.fJ N (by rw [hx];simp) (by rw [hx];rfl)).G3
   refine .quiet h (B (.int .i64 l.length) ?_) rfl (.i _ _)
   simp [Builtin.len_,run_underlying hu,hv,goInt,D9]
  ·cases he
 ·rename_i k b n s hx
  split at he
  ·cases he
  ·rename_i hs
   obtain rfl:=af he
   rw [aa hs] at J
   obtain ⟨e,hu⟩:∃ e,C.P.underlying t=some (.slice e):=by
    grind [lD]
   obtain ⟨cap,_,_,hv⟩:=(hx▸h.fJ N (by rw [hx];simp) (by rw [hx];rfl)).UG
   refine .quiet h (B (.int .i64 n) ?_) rfl (.i _ _)
   simp [Builtin.len_,run_underlying hu,hv,goInt]
 ·split at he
  ·cases he
  ·rename_i hs
   obtain ⟨q,hq,he⟩:=ah.1 he
   obtain rfl:=af he
   rw [aa hs] at J
   obtain ⟨e,hu⟩:∃ e,C.P.underlying t=some (.slice e):=by
    grind [lD]
   obtain ⟨A,cap,hv,_⟩:=h.len N hq
   refine .quiet h (B (.int .i64 q.2.length) ?_) rfl (.i _ _)
   simp [Builtin.len_,run_underlying hu,hv,goInt]
theorem Rw(h:aq C st a w σ){y:Option Operand}{x:Option aY}{dflt n cap:Nat}{code:BoundsCode}(hl:zR y x=true)(hb:pY st x dflt=some n)(hn:n≤cap) :
  (match y.map a.eval with
   | some v=>Instr.sliceBound v cap code
   | none=>pure dflt:Sem Nat).run C.P w= .ok n w:=by
 cases y with
 | none=>
  cases x with
  | none=>obtain rfl:=af hb;rfl
  | some x=>simp [zR] at hl
 | some y=>
  cases x with
  | none=>simp [zR] at hl
  | some x=>
   have bk:bR y x=true:=hl
   obtain ⟨k,m,hi,bs,rfl⟩:=FZ (x:=st.ev x) hb
   have hv:=(hi▸h.fJ bk (by rw [hi];simp) (by rw [hi];rfl)).kB
   simp_all [Instr.sliceBound,asIntOf]
theorem BW(h:aq C st a w σ){lo' Z:Option Operand}{lo hi:Option aY}{i j len cap:Nat}(sl:Bool)(N:zR lo' lo=true)(aO:zR Z hi=true)
  (X:pY st lo 0=some i) (V:pY st hi len=some j) (W:i≤j) (aG:j≤cap) :
  (Instr.sliceBounds sl len cap (lo'.map a.eval) (Z.map a.eval) none).run C.P w= .ok (i,j,cap) w:=by
 have h1:=Rw h (cap:=cap) (code:=if sl then .sliceAcap else .sliceAlen) aO V aG
 have h2:=Rw h (cap:=j) (code:=.sliceB) N X W
 unfold Instr.sliceBounds
 cases Z with
 | none=>
  cases lo' with
  | none=>simp_all
  | some y=>simp_all
 | some z=>
  cases lo' with
  | none=>simp_all
  | some y=>simp_all
theorem UJ{P:Program}{t:TypeId}(h:AP P t=true):P.underlying t=some .string:=by
 grind [AP]
theorem QC{P:Program}{t e:TypeId}(h:lD P t=some e):P.underlying t=some (.slice e):=by
 grind [lD]
theorem afq{t sz:Nat}{x:aY}{lo hi:Option aY}(h:aq C st a w σ)(hl:bG C.P (.sl t sz x lo hi) o.op=true)(he:execOp R Ω C.E st d (.sl t sz x lo hi)=some r) :
  eM C o d a w σ r.2 r.1:=by
 obtain ⟨ty,x',lo',Z,L,H,N,aO,J⟩:∃ ty x' lo' Z,o.op= .slice ty x' lo' Z none∧bR x' x=true∧zR lo' lo=true∧zR Z hi=true∧
   (if t=0 then AP C.P ty else lD C.P ty==some t&&sized C.P t sz)=true:=by
  simp only [bG] at hl;split at hl
  ·rename_i ty x' lo' Z hy
   simp only [aC] at hl
   exact ⟨_,_,_,_,hy,hl.1.1.1,hl.1.1.2,hl.1.2,hl.2⟩
  ·cases hl
 have K:∀ A n cap i j,a.eval x'= .slice A n cap→pY st lo 0=some i→pY st hi n=some j→i≤j→j≤cap→t≠0→
   C.P.cellsOf t=sz∧(Go.execOp a.eval o).run C.P w= .ok (.value (.slice (if cap=i then A else A.map (·.add (i*C.P.cellsOf t))) (j - i) (cap - i))) w:=by
  intro A n cap i j hv X V W aG ht
  rw [aa ht] at J
  simp only [aC,eh] at J
  obtain ⟨G,D,am⟩:=pL J.2
  have hu:=QC J.1
  have hb:=BW h (len:=n) (cap:=cap) true N aO X V W aG
  refine ⟨D,?_⟩
  unfold Go.execOp
  simp only [L,Instr.sliceAt,Instr.slice,hv,Sem.run_bind,run_underlying hu,Result.andThen_ok,hb,Option.map_none,lg G,Sem.run_pure]
 simp only [execOp] at he
 split at he
 ·rename_i l hx
  obtain ⟨i,X,he⟩:=ah.1 he
  obtain ⟨j,V,he⟩:=ah.1 he
  split at he
  ·rename_i hc
   simp only [aC,eh,eI] at hc
   obtain ⟨⟨bf,W⟩,aF⟩:=hc
   obtain rfl:=af he
   have hv:=(hx▸h.fJ H (by rw [hx];simp) (by rw [hx];rfl)).G3
   have hu:=UJ (by rw [ab bf] at J;exact J)
   have hb:=BW h (len:=l.length) (cap:=l.length) false N aO X V W aF
   refine .quiet h (cv:=.string ⟨((l.take j).drop i).toArray⟩) ?_ rfl (.s _)
   simp_all [Go.execOp,Instr.sliceAt,Instr.slice,run_underlying,D9,Nf]
  ·cases he
 ·rename_i t' es hx
  obtain ⟨i,X,he⟩:=ah.1 he
  obtain ⟨j,V,he⟩:=ah.1 he
  split at he
  ·rename_i hc
   simp only [aC,uP,eI] at hc
   obtain ⟨⟨⟨ht,aL⟩,W⟩,aF⟩:=hc
   obtain rfl:=af he
   obtain ⟨A,cap,hv,ac⟩:=(hx▸h.fJ H (by rw [hx];simp) (by rw [hx];rfl)).N1
   have aG:j≤cap:=by
    rcases ac with ac | ⟨_,_,_,_,_,_,_,_,_,_,_,_,_,_,_,aI,_⟩
    ·grind
    ·omega
   obtain ⟨D,B⟩:=K A _ cap i j hv X V W aG ht
   refine .quiet h B rfl ?_
   have hlen:((es.take j).drop i).length=j - i:=by simp;omega
   by_cases bp:j=i
   ·subst bp
    have:(es.take j).drop j=[]:=by grind
    rw [this,Nat.sub_self]
    exact .lnil _ _ _
   ·rcases ac with ac | ⟨g,b,cs,T,fz,sz',rfl,hI,hh,bh,aA,M,aB,hp,h1,aI,aW,a7⟩
    ·grind
    ·have a8:C.P.cellsOf t=sz':=by
      have hm:es[i]? =some (es[i]'(by omega)):=aP _
      have:=bg hm
      rw [D,←M _ this]
      have:=cJ.1 aL _ this
      grind
     rw [aa (by omega),a8,←hlen]
     simp only [fE,add_lit]
     have ak:∀ e∈(es.take j).drop i,e∈es:=by grind [List.mem_of_mem_take]
     refine VR.l t' _ g (b+i*sz') (cap - i) cs T fz sz' hI hh bh aA (fun e he=>M e (ak e he)) ?_ (fun e he=>hp e (ak e he)) (fun e he=>h1 e (ak e he)) (by rw [hlen];omega) (by omega) fun k e m c hk hm=>?_
     ·rw [hlen]
      have:i*sz'+(j - i)*sz'≤es.length*sz':=by rw [←fF];exact gK _ (by omega)
      omega
     ·have bn:es[i+k]? =some e:=by
       simp_all [mS]
      have:=a7 (i+k) e m c bn hm
      rwa [fF,←uV] at this
  ·cases he
 ·rename_i pl hx
  obtain ⟨⟨t',es⟩,F,he⟩:=ah.1 he
  obtain ⟨i,X,he⟩:=ah.1 he
  obtain ⟨j,V,he⟩:=ah.1 he
  split at he
  ·rename_i hc
   simp only [aC,uP,eh,eI] at hc
   obtain ⟨⟨⟨ht,be⟩,W⟩,aF⟩:=hc
   obtain rfl:=af he
   subst be
   obtain ⟨m,rfl,hm⟩:=eN hx rfl H
   obtain ⟨A,cap,al,hle⟩:=h.JL F
   have hv:a.eval x'= .slice A es.length cap:=((hm▸h.slot H) (by rw [F];rfl)).trans al
   obtain ⟨D,B⟩:=K A _ cap i j hv X V W (by omega) ht
   refine .AQ h B (fun _ _ e=>by cases e) fun dd=>?_
   intro t2 es2 h2 _
   obtain ⟨rfl,rfl⟩:t'=t2∧es=es2:=by grind
   grind
  ·cases he
 ·cases he
end
variable [bM]
section
variable {C:Cx}{st:St}{a:Act}{w:World}{σ:Sp}{o:Oper}{d:Option Nat}{R:Rec}{Ω:ef}{r:AV×St}
theorem VR.Lf{I:Nat→Prop}{κ:Key→Nat}{c:AV}{v:Value}(h:VR w I κ c v)(hc:c.one=true):v.oneCell'=true:=by
 cases h<;>first | rfl | (simp [AV.one] at hc)
theorem VR.cells{I:Nat→Prop}{κ:Key→Nat}{y:AV}{v:Value}(h:VR w I κ y v)(h1:∀ c∈y.cl,c.one=true) :
  y.cl.length=v.cells.size∧∀ (m:Nat)(c:AV),y.cl[m]? =some c→VR w I κ c (v.cells.getD m undef):=by
 by_cases ha:∃ cs,y= .a cs
 ·obtain ⟨cs,rfl⟩:=ha
  obtain ⟨vs,rfl,hl,_,hc⟩:=h.YH
  exact ⟨hl,hc⟩
 ·have aQ:y.cl=[y]:=by cases y<;>first | rfl | grind
  have hv:v.cells=#[v]:=by
   have h2:=h1 y (by rw [aQ];simp)
   cases h<;>first | rfl | (simp [AV.one] at h2)
  rw [aQ,hv]
  refine ⟨rfl,fun m c hm=>?_⟩
  cases m with
  | zero=>
   simp_all
  | succ m=>simp at hm
structure CA(w:World)(I:Nat→Prop)(κ:Key→Nat)(cs:List AV)(vs:Array Value):Prop where
 len:cs.length=vs.size
 one:∀ c∈cs,c.one=true∨c= .u
 cell:∀ (m:Nat)(c:AV),cs[m]? =some c→VR w I κ c (vs.getD m undef)
theorem km(cs:List AV)(off:Nat)(ys:List AV)(h:off+ys.length≤cs.length)(i:Nat) :
  (putCells cs off ys)[i]? =if off≤i∧i<off+ys.length then ys[i - off]? else cs[i]? :=by
 unfold putCells
 rw [ox,pV]
 grind
theorem n9(cs:List AV)(off:Nat)(ys:List AV)(h:off+ys.length≤cs.length):(putCells cs off ys).length=cs.length:=by
 grind [putCells]
theorem Ea(off:Nat):∀ (l:List (Value×Nat))(cells:Array Value),(∀ x∈l,off+x.2<cells.size)→
  (l.foldl (fun cs x=>cs.setIfInBounds (off+x.2) x.1) cells).size=cells.size
 | [],_,_=>rfl
 | x::l,cells,h=>by
  simp only [ym]
  rw [Ea off l _ ((by grind)),Array.size_setIfInBounds]
theorem F1(off:Nat)(us:List Value):∀ (k:Nat)(cells:Array Value),off+k+us.length≤cells.size→
  ∀ i,((us.zipIdx k).foldl (fun cs x=>cs.setIfInBounds (off+x.2) x.1) cells)[i]? =
   if off+k≤i∧i<off+k+us.length then us[i - off - k]? else cells[i]? :=by
 induction us with
 | nil=>
  simp_all [aa]
 | cons u us ih=>
  grind [List.zipIdx_cons]
theorem CA.put{I:Nat→Prop}{κ:Key→Nat}{cs:List AV}{vs:Array Value}(h:CA w I κ cs vs){off:Nat}{ys:List AV}{us:List Value}(hl:ys.length=us.length)
  (ho:off+ys.length≤cs.length) (h1:∀ c∈ys,c.one=true∨c= .u) (hc:∀ (m:Nat)(c:AV),ys[m]? =some c→VR w I κ c (us[m]?.getD undef)) :
  CA w I κ (putCells cs off ys) ((us.zipIdx).foldl (fun cs x=>cs.setIfInBounds (off+x.2) x.1) vs):=by
 have Q:((us.zipIdx).foldl (fun cs x=>cs.setIfInBounds (off+x.2) x.1) vs).size=vs.size:=Ea off _ _ fun x hx=>by
  have:=Fs hx
  have:=h.len
  omega
 refine ⟨by rw [n9 _ _ _ ho,Q,h.len],fun c hm=>?_,fun m c hm=>?_⟩
 ·unfold putCells at hm
  rcases dk.1 hm with hm | hm
  ·rcases dk.1 hm with hm | hm
   ·exact h.one c (oA hm)
   ·exact h1 c hm
  ·exact h.one c (uU hm)
 ·rw [km _ _ _ ho] at hm
  have hf:=F1 off us 0 vs (by have:=h.len;omega) m
  simp only [oC,uW,←hl] at hf
  rw [dK,hf]
  by_cases hi:off≤m∧m<off+ys.length
  ·grind
  ·rw [aa hi] at hm ⊢
   rw [←dK]
   exact h.cell m c hm
theorem run_places(P:Program)(w:World):∀ (fs:List Field),(∀ f∈fs,(P.info? f.type).isSome=true)→
  (fs.mapM (fun f=>do pure (f.offset,←sizeOf f.type):Field→Sem (Nat×Nat))).run P w= .ok (fs.map fun f=>(f.offset,P.cellsOf f.type)) w
 | [],_=>rfl
 | f::fs,h=>by
  rw [yn]
  simp only [Sem.run_bind,lg (h f (by simp)),Result.andThen_ok,Sem.run_pure,run_places P w fs (fun g hg=>h g (by simp [hg])),fj]
theorem OG(h:aq C st a w σ){t:TypeId}{fs:Array Field}(hu:C.P.underlying t=some (.struct fs)) :
  ∀ (ps:List (Nat×Operand))(qs:List (Nat×Nat×aY))(cs:List AV)(vs:Array Value),xk C.P t ps qs=true→CA w σ.I σ.κ cs vs→
   (∀ f∈qs,(st.ev f.2.2).copy=true∧(st.ev f.2.2).nc=f.2.1∧(∀ c∈(st.ev f.2.2).cl,c.one=true)∧f.1+f.2.1≤cs.length)→
   ∃ vs',Instr.fill (fun i=>((fs.toList.map fun f=>(f.offset,C.P.cellsOf f.type)).toArray)[i]?) vs (ps.map fun p=>(p.1,a.eval p.2))=some vs'∧
    CA w σ.I σ.κ (qs.foldl (fun cs f=>putCells cs f.1 (st.ev f.2.2).cl) cs) vs'
 | [],[],cs,vs,_,ad,_=>⟨vs,rfl,ad⟩
 | (i,y)::ps,(off,sz,x)::qs,cs,vs,hl,ad,hq=>by
  simp only [xk,aC] at hl
  obtain ⟨⟨hf,N⟩,aD⟩:=hl
  obtain ⟨a5,S,h1,hle⟩:=hq (off,sz,x) (by simp)
  simp only at a5 S h1 hle
  split at hf
  ·rename_i f aX
   simp only [aC,eh] at hf
   obtain ⟨rfl,Q⟩:=hf
   obtain ⟨G,D,am⟩:=pL Q
   obtain ⟨fs',br,bt⟩:=CD aX
   obtain rfl:fs=fs':=by grind
   have hv:=h.wQ N a5
   obtain ⟨aQ,a7⟩:=hv.cells h1
   have M:(st.ev x).cl.length=sz:=S
   have Y:CA w σ.I σ.κ (putCells cs f.offset (st.ev x).cl) (((a.eval y).cells.zipIdx).foldl (fun cs x=>cs.setIfInBounds (f.offset+x.2) x.1) vs):=by
    have:=ad.put (off:=f.offset) (ys:=(st.ev x).cl) (us:=(a.eval y).cells.toList) (by simpa using aQ) (by omega) (fun c hc=>.inl (h1 c hc)) ((by grind [Array.getD_eq_getD_getElem?]))
    grind [Array.toList_zipIdx]
   have hlen:=n9 cs f.offset (st.ev x).cl (by omega)
   obtain ⟨vs',aH,aJ⟩:=OG h hu ps qs _ _ aD Y (fun g hg=>by rw [hlen];exact hq g (by simp [hg]))
   refine ⟨vs',?_,aJ⟩
   have aw:((fs.toList.map fun f=>(f.offset,C.P.cellsOf f.type)).toArray)[i]? =some (f.offset,sz):=by
    grind
   have bw:(a.eval y).cells.size=sz:=by omega
   have U:¬(f.offset+sz>vs.size):=by have:=ad.len;omega
   grind [Instr.fill]
  ·cases hf
 | [],_::_,_,_,hl,_,_=>by simp [xk] at hl
 | _::_,[],_,_,hl,_,_=>by simp [xk] at hl
theorem zT{P:Program}{t:TypeId}{v:Value}(h:zeroOf P t=some v):∃ i,P.info? t=some i∧i.zero=some v:=by
 grind [zeroOf,Option.bind_eq_some_iff]
theorem OH{P:Program}{t:TypeId}{v:Value}(h:zeroOf P t=some v)(w:World):(zeroValue t).run P w= .ok v w:=by
 obtain ⟨i,hi,hz⟩:=zT h
 simp [zeroValue,typeInfo,hi,hz]
theorem Ng{cs ys:List AV}{off:Nat}{c:AV}(h:c∈putCells cs off ys):c∈cs∨c∈ys:=by
 grind [putCells]
theorem OI:∀ (qs:List (Nat×Nat×aY))(cs:List AV),(∀ c∈cs,c.one=true)→(∀ f∈qs,∀ c∈(st.ev f.2.2).cl,c.one=true)→∀ c∈qs.foldl (fun cs f=>putCells cs f.1 (st.ev f.2.2).cl) cs,c.one=true
 | [],_,h,_=>h
 | q::qs,cs,h,hq=>OI qs _ ((by grind [Ng])) fun f hf=>hq f (by simp [hf])
theorem afr{zs:List AV}{fs:List (Nat×Nat×aY)}(h:aq C st a w σ)(hl:bG C.P (.bd zs fs) o.op=true)(he:execOp R Ω C.E st d (.bd zs fs)=some r) :
  eM C o d a w σ r.2 r.1:=by
 simp only [bG] at hl
 split at hl
 ·rename_i t parts L
  simp only [aC] at hl
  obtain ⟨⟨hz,an⟩,a2⟩:=hl
  split at hz
  ·rename_i v bq
   simp only [aC] at hz
   split at a2
   ·rename_i fds hu
    simp only [execOp] at he
    split at he
    ·rename_i aL
     cases he
     have ag:∀ f∈fs,(st.ev f.2.2).copy=true∧(st.ev f.2.2).nc=f.2.1∧(∀ c∈(st.ev f.2.2).cl,c.one=true)∧f.1+f.2.1≤zs.length:=by
      grind
     obtain ⟨hlen,a6⟩:=xh (w:=w) (I:=σ.I) (κ:=σ.κ) v.cells.toList zs hz.1
     have ad:CA w σ.I σ.κ zs v.cells:=⟨by grind,by grind,by grind [Array.getD_eq_getD_getElem?]⟩
     obtain ⟨vs',aH,Y⟩:=OG h hu parts.toList fs zs v.cells an ad ag
     have G:∀ f∈fds.toList,(C.P.info? f.type).isSome=true:=by grind [Array.all_eq_true_iff_forall_mem]
     have aM:=run_places C.P w fds.toList G
     have B:(Go.execOp a.eval o).run C.P w= .ok (.value (.agg vs')) w:=by
      simp_all [Go.execOp,Instr.build,OH,run_underlying,Array.mapM_eq_mapM_toList]
     refine .lr B ⟨.refl _ _ _,h,fun _ _=>lE (.a _ _ Y.len (OI fs zs ((by grind)) fun f hf=>(ag f hf).2.2.1) Y.cell),fun _ _ _ _ e=>by cases e⟩
    ·cases he
   ·cases a2
  ·cases hz
 ·cases hl
structure CG(w:World)(σ:Sp)(a:Act)(acc:List AV×List (Nat×Nat))(vs:Array Value):Prop where
 len:acc.1.length=vs.size
 one:∀ c∈acc.1,c.one=true∨c= .u
 cell:∀ (m:Nat)(c:AV),acc.1[m]? =some c→VR w σ.I σ.κ c (vs.getD m undef)
 row:∀ q∈acc.2,q.1<vs.size∧vs.getD q.1 undef=a.tmps.getD q.2 undef
theorem CG.put{acc:List AV×List (Nat×Nat)}{rs:List (Nat×Nat)}{vs:Array Value}(h:CG w σ a acc vs){off:Nat}{ys:List AV}{us:List Value}(hl:ys.length=us.length)
  (ho:off+ys.length≤acc.1.length) (h1:∀ c∈ys,c.one=true∨c= .u) (hc:∀ (m:Nat)(c:AV),ys[m]? =some c→VR w σ.I σ.κ c (us[m]?.getD undef))
  (hr:∀ q∈rs,(q∈acc.2∧¬(off≤q.1∧q.1<off+ys.length))∨(q.1=off∧us[0]? =some (a.tmps.getD q.2 undef))) :
  CG w σ a (putCells acc.1 off ys,rs) ((us.zipIdx).foldl (fun cs x=>cs.setIfInBounds (off+x.2) x.1) vs):=by
 have ad:CA w σ.I σ.κ acc.1 vs:=⟨h.len,h.one,h.cell⟩
 have hp:=ad.put hl ho h1 hc
 refine ⟨hp.len,hp.one,hp.cell,fun q hq=>?_⟩
 have Q:((us.zipIdx).foldl (fun cs x=>cs.setIfInBounds (off+x.2) x.1) vs).size=vs.size:=Ea off _ _ fun x hx=>by
  have:=Fs hx
  have:=h.len
  omega
 have hf:=F1 off us 0 vs (by have:=h.len;omega) q.1
 simp only [oC,uW,←hl] at hf
 rw [Q,dK,hf]
 rcases hr q hq with ⟨h2,h3⟩ | ⟨h2,h3⟩
 ·rw [aa h3,←dK]
  exact h.row q h2
 grind
end
end Go.Proofs.YtkkkkondjclcnaaGreat.A
