/- Paths: what is told of a run (which way it goes, what an element is, what a call answers) gives what must be shown, and nothing else; all else is reckoned. -/
import Derived.Test.YtdpjofmmokaobaaGreatAbs3
import Derived.KernelRfl
set_option linter.unusedSectionVars false
set_option linter.unusedVariables false
set_option linter.unusedSimpArgs false
set_option linter.constructorNameAsVariable false
namespace Go.Proofs.YtdpjofmmokaobaaGreat.A
open Go
inductive YQ where
 | b (x:Bool)
 | n (x:Nat)
 | i (x:Int)
 | v (x:AV)
 | l (es:List AV)
 | s (x:List UInt8)
 | h (hp:HP)
 | bx (bs:List (Nat×List AV))
 | lp (e:aR) (st:St)
 | fr (e:aR) (st:St)
 | jn (st:St)
inductive AT:Type 1 where
 | nil
 | no
 | co (x:YQ) (r:AT)
 | or (a b:AT)
 | ex {α:Type} (f:α→AT)
 | jb (d:Option Nat) (n:Nat) (b:AT)
 | fb (b:AT)
def gh:AT→(AT→Prop)→Prop
 | .or a b,k=>gh a k∨gh b k
 | .ex f,k=>∃ x,gh (f x) k
 | .no,_=>False
 | a,k=>k a
theorem ei{k:AT→Prop} : ∀ {a:AT},gh a k→∃ b,k b
 | .or a b,h=>by
  rw [gh] at h
  rcases h with h | h
  ·exact ei h
  ·exact ei h
 | .ex f,h=>by
  rw [gh] at h
  obtain ⟨x,h⟩:=h
  exact ei h
 | .no,h=>h.elim
 | .nil,h=>⟨_,h⟩
 | .co _ _,h=>⟨_,h⟩
 | .jb _ _ _,h=>⟨_,h⟩
 | .fb _,h=>⟨_,h⟩
def BZ(a:AT)(k:Bool→AT→Prop):Prop:=gh a fun a=>match a with
 | .co (.b x) r=>k x r
 | _=>False
def Sy(a:AT)(k:Nat→AT→Prop):Prop:=gh a fun a=>match a with
 | .co (.n x) r=>k x r
 | _=>False
def AN(a:AT)(k:Int→AT→Prop):Prop:=gh a fun a=>match a with
 | .co (.i x) r=>k x r
 | _=>False
def FJ(a:AT)(k:AV→AT→Prop):Prop:=gh a fun a=>match a with
 | .co (.v x) r=>k x r
 | _=>False
def tR(a:AT)(k:List AV→AT→Prop):Prop:=gh a fun a=>match a with
 | .co (.l x) r=>k x r
 | _=>False
def Sz(a:AT)(k:List UInt8→AT→Prop):Prop:=gh a fun a=>match a with
 | .co (.s x) r=>k x r
 | _=>False
def EE(a:AT)(k:HP→AT→Prop):Prop:=gh a fun a=>match a with
 | .co (.h x) r=>k x r
 | _=>False
def Mw(a:AT)(k:List (Nat×List AV)→AT→Prop):Prop:=gh a fun a=>match a with
 | .co (.bx x) r=>k x r
 | _=>False
def I9(a:AT)(k:aR→St→AT→Prop):Prop:=gh a fun a=>match a with
 | .co (.lp e st) r=>k e st r
 | _=>False
def fE(b:Bool)(p:Prop):Prop:=match b with
 | true=>p
 | false=>False
theorem sd{a:AT}{k:Bool→AT→Prop}(h:BZ a k):∃ x r,k x r:=by
 obtain ⟨b,h⟩:=ei h
 split at h
 ·exact ⟨_,_,h⟩
 ·exact h.elim
theorem Kp{a:AT}{k:Nat→AT→Prop}(h:Sy a k):∃ x r,k x r:=by
 obtain ⟨b,h⟩:=ei h
 split at h
 ·exact ⟨_,_,h⟩
 ·exact h.elim
theorem qB{a:AT}{k:Int→AT→Prop}(h:AN a k):∃ x r,k x r:=by
 obtain ⟨b,h⟩:=ei h
 split at h
 ·exact ⟨_,_,h⟩
 ·exact h.elim
theorem wD{a:AT}{k:AV→AT→Prop}(h:FJ a k):∃ x r,k x r:=by
 obtain ⟨b,h⟩:=ei h
 split at h
 ·exact ⟨_,_,h⟩
 ·exact h.elim
theorem kB{a:AT}{k:List AV→AT→Prop}(h:tR a k):∃ x r,k x r:=by
 obtain ⟨b,h⟩:=ei h
 split at h
 ·exact ⟨_,_,h⟩
 ·exact h.elim
theorem Kq{a:AT}{k:List UInt8→AT→Prop}(h:Sz a k):∃ x r,k x r:=by
 obtain ⟨b,h⟩:=ei h
 split at h
 ·exact ⟨_,_,h⟩
 ·exact h.elim
theorem tS{a:AT}{k:HP→AT→Prop}(h:EE a k):∃ x r,k x r:=by
 obtain ⟨b,h⟩:=ei h
 split at h
 ·exact ⟨_,_,h⟩
 ·exact h.elim
theorem Ic{a:AT}{k:List (Nat×List AV)→AT→Prop}(h:Mw a k):∃ x r,k x r:=by
 obtain ⟨b,h⟩:=ei h
 split at h
 ·exact ⟨_,_,h⟩
 ·exact h.elim
theorem Dq{a:AT}{k:aR→St→AT→Prop}(h:I9 a k):∃ e st r,k e st r:=by
 obtain ⟨b,h⟩:=ei h
 split at h
 ·exact ⟨_,_,_,h⟩
 ·exact h.elim
theorem cw{b:Bool}{p:Prop}(h:fE b p):b=true∧p:=by
 cases b with
 | true=>exact ⟨rfl,h⟩
 | false=>exact h.elim
def FK(x:AV)(a:AT)(k:Nat→AT→Prop):Prop:=match x with
 | .i _ n=>Sy a fun j r=>n=(j:Int)∧k j r
 | _=>False
theorem Dr{x:AV}{a:AT}{k:Nat→AT→Prop}(h:FK x a k):∃ j r,pI x=some j∧k j r:=by
 unfold FK at h;split at h
 ·obtain ⟨j,r,h1,h2⟩:=Kp h
  subst h1
  exact ⟨j,r,by simp [pI],h2⟩
 ·exact h.elim
def A2(E:Env)(st:St)(k:Key)(a:AT)(q:List AV→AT→Prop):Prop:=
 BZ a fun own r=>match own with
  | true=>k.dp=E.dp∧(match aC st.bx k.d with
   | some cs=>q cs r
   | none=>False)
  | false=>tR r fun cs r=>k.dp≠E.dp∧st.hp k=some cs∧q cs r
theorem tG{E:Env}{st:St}{k:Key}{a:AT}{q:List AV→AT→Prop}(h:A2 E st k a q):∃ cs r,st.box E.dp k=some cs∧q cs r:=by
 obtain ⟨own,r,h⟩:=sd h
 cases own with
 | true=>
  obtain ⟨h1,h2⟩:=h
  split at h2
  ·rename_i cs hb
   exact ⟨cs,r,by simp only [St.box,if_pos h1,hb],h2⟩
  ·exact h2.elim
 | false=>
  obtain ⟨cs,r,h1,h2,h3⟩:=kB h
  exact ⟨cs,r,by simp only [St.box,if_neg h1,h2],h3⟩
def ri(E:Env)(st:St)(k:Key)(cs:List AV)(a:AT)(q:St→AT→Prop):Prop:=
 BZ a fun own r=>match own with
  | true=>k.dp=E.dp∧q {st with bx:=iQ st.bx k.d cs} r
  | false=>EE r fun hp r=>k.dp≠E.dp∧ad st.hp k cs=hp∧q {st with hp:=hp} r
theorem n9{E:Env}{st:St}{k:Key}{cs:List AV}{a:AT}{q:St→AT→Prop}(h:ri E st k cs a q):∃ r,q (st.aX E.dp k cs) r:=by
 obtain ⟨own,r,h⟩:=sd h
 cases own with
 | true=>
  obtain ⟨h1,h2⟩:=h
  exact ⟨r,by simp only [St.aX,if_pos h1];exact h2⟩
 | false=>
  obtain ⟨hp,r,h1,h2,h3⟩:=tS h
  subst h2
  exact ⟨r,by simp only [St.aX,if_neg h1];exact h3⟩
def l8(E:Env)(st:St)(pl:Pl)(a:AT)(q:TypeId→List AV→AT→Prop):Prop:=
 match pl with
 | .s d=>match ax st.fr d with
  | .o t es=>q t es a
  | _=>False
 | .c k off=>A2 E st k a fun cs r=>match cs[off]? with
  | some (.o t es)=>q t es r
  | _=>False
theorem fo{E:Env}{st:St}{pl:Pl}{a:AT}{q:TypeId→List AV→AT→Prop}(h:l8 E st pl a q):∃ t es r,st.rowAt E.dp pl=some (t,es)∧q t es r:=by
 unfold l8 at h
 split at h
 ·split at h
  ·rename_i t es hx
   exact ⟨t,es,a,by simp only [St.rowAt,hx],h⟩
  ·exact h.elim
 ·obtain ⟨cs,r,h1,h2⟩:=tG h
  split at h2
  ·rename_i t es hx
   exact ⟨t,es,r,by simp only [St.rowAt,h1,hx],h2⟩
  ·exact h2.elim
def yT(E:Env)(st:St)(x:AV)(pl:Pl)(a:AT)(q:St→AT→Prop):Prop:=
 match pl with
 | .s d=>q (st.bT d x) a
 | .c k off=>A2 E st k a fun cs r=>ri E st k (cs.set off x) r q
theorem yU{E:Env}{st:St}{x:AV}{pl:Pl}{a:AT}{q:St→AT→Prop}(h:yT E st x pl a q):∃ st' r,st.putAt E.dp x pl=some st'∧q st' r:=by
 unfold yT at h
 split at h
 ·exact ⟨_,a,rfl,h⟩
 ·obtain ⟨cs,r,h1,h2⟩:=tG h
  obtain ⟨r',h3⟩:=n9 h2
  exact ⟨_,r',by simp only [St.putAt,h1],h3⟩
def Aa(sz:Nat)(es:List AV)(j:Nat)(a:AT)(q:AV→AT→Prop):Prop:=FJ a fun e r=>es[j]? =some e∧fE (e.nc==sz) (q e r)
theorem tT{sz:Nat}{es:List AV}{j:Nat}{a:AT}{q:AV→AT→Prop}(h:Aa sz es j a q):∃ e r,es[j]? =some e∧e.nc=sz∧q e r:=by
 obtain ⟨e,r,h1,h2⟩:=wD h
 obtain ⟨h3,h4⟩:=cw h2
 exact ⟨e,r,h1,by simpa using h3,h4⟩
theorem rj{E:Env}(h:E.ro=false)(pl:Pl):pl.fQ E=true:=by cases pl<;>simp [Pl.fQ,h]
def B0(E:Env)(st:St)(x:AV)(a:AT)(q:TypeId→List AV→AT→Prop):Prop:=
 match x with
 | .l t es=>q t es a
 | .n=>q 0 [] a
 | .o t es=>q t es a
 | .r pl=>l8 E st pl a q
 | .v pl lo len=>l8 E st pl a fun t es r=>tR r fun es' r=>lo+len≤es.length∧(es.drop lo).take len=es'∧q t es' r
 | _=>False
theorem EF{E:Env}{st:St}{x:AV}{a:AT}{q:TypeId→List AV→AT→Prop}(h:B0 E st x a q):∃ t es r,st.elems E.dp x=some (t,es)∧q t es r:=by
 unfold B0 at h
 split at h
 ·exact ⟨_,_,a,rfl,h⟩
 ·exact ⟨_,_,a,rfl,h⟩
 ·exact ⟨_,_,a,rfl,h⟩
 ·obtain ⟨t,es,r,h1,h2⟩:=fo h
  exact ⟨t,es,r,h1,h2⟩
 ·obtain ⟨t,es,r,h1,h2⟩:=fo h
  obtain ⟨es',r',h3,h4,h5⟩:=kB h2
  subst h4
  exact ⟨t,_,r',by simp only [St.elems,h1,if_pos h3],h5⟩
 ·exact h.elim
def ta(E:Env)(st:St):List AV→AT→(List AV→List TypeId→AT→Prop)→Prop
 | [],a,q=>q [] [] a
 | x::xs,a,q=>(match x with
  | .o t es=>ta E st xs a fun ys ts r=>q (.l t es::ys) ([t]++ts) r
  | .r pl=>l8 E st pl a fun t es r=>ta E st xs r fun ys ts r=>q (.l t es::ys) ([t]++ts) r
  | .v pl lo len=>l8 E st pl a fun t es r=>tR r fun es' r=>lo+len≤es.length∧(es.drop lo).take len=es'∧ta E st xs r fun ys ts r=>q (.l t es'::ys) ([t]++ts) r
  | .w _ t x=>ta E st xs a fun ys ts r=>q (x::ys) ([t]++ts) r
  | x=>fE x.pure (ta E st xs a fun ys ts r=>q (x::ys) ([]++ts) r))
theorem pW{E:Env}{st:St} : ∀ {xs:List AV}{a:AT}{q:List AV→List TypeId→AT→Prop},ta E st xs a q→∃ ys ts r,st.ey E.dp xs=some (ys,ts)∧q ys ts r
 | [],a,q,h=>⟨[],[],a,rfl,h⟩
 | x::xs,a,q,h=>by
  unfold ta at h
  split at h
  ·obtain ⟨ys,ts,r,h1,h2⟩:=pW h
   exact ⟨_,_,r,by simp [St.ey,St.lr,h1],h2⟩
  ·obtain ⟨t,es,r,h1,h2⟩:=fo h
   obtain ⟨ys,ts,r,h3,h4⟩:=pW h2
   exact ⟨_,_,r,by simp [St.ey,St.lr,h1,h3],h4⟩
  ·obtain ⟨t,es,r,h1,h2⟩:=fo h
   obtain ⟨es',r,h3,h4,h5⟩:=kB h2
   obtain ⟨ys,ts,r,h6,h7⟩:=pW h5
   subst h4
   exact ⟨_,_,r,by simp [St.ey,St.lr,h1,h3,h6],h7⟩
  ·obtain ⟨ys,ts,r,h1,h2⟩:=pW h
   exact ⟨_,_,r,by simp [St.ey,St.lr,h1],h2⟩
  ·rename_i h1 h2 h3 hw
   obtain ⟨h4,h5⟩:=cw h
   obtain ⟨ys,ts,r,h6,h7⟩:=pW h5
   refine ⟨_,_,r,?_,h7⟩
   have:st.lr E.dp x=some (x,[]):=by
    unfold St.lr
    split
    ·exact (h1 _ _ rfl).elim
    ·exact (h2 _ rfl).elim
    ·exact (h3 _ _ _ rfl).elim
    ·exact (hw _ _ _ rfl).elim
    ·simp [AV.pure] at h4
    ·rw [if_pos h4]
   simp [St.ey,this,h6]
abbrev KW:=AV→St→AT→Prop
section
variable (G:nu)(Ω:cK)(E:Env)(st:St)(d:Option Nat)
def SA(sz:Nat)(arr:Option Nat)(x:AV)(xo:bj)(j:Nat)(a:AT)(k:KW):Prop:=
 match arr with
 | some len=>j<len∧(match x with
  | .p kk o=>k (.p kk (o+j*sz)) st a
  | .e y o=>k (.e y (o+j*sz)) st a
  | _=>False)
 | none=>match x with
  | .l _ es=>Aa sz es j a fun e r=>k (.e e 0) st r
  | .o _ es=>match xo with
   | .t m=>Aa sz es j a fun _ r=>k (.q (.s m) j sz 0) st r
   | .c _=>False
  | .r pl=>l8 E st pl a fun _ es r=>Aa sz es j r fun _ r=>k (.q pl j sz 0) st r
  | .v pl lo len=>l8 E st pl a fun _ es r=>j<len∧lo+len≤es.length∧(Aa sz es (lo+j) r fun _ r=>k (.q pl (lo+j) sz 0) st r)
  | _=>False
def Mx(E:Env)(k:Key):Prop:=match E.ro with
 | false=>false=false
 | true=>k.dp=E.dp
theorem Ja{E:Env}{k:Key}(h:Mx E k)(off:Nat):(Pl.c k off).fQ E=true:=by
 unfold Mx at h
 cases hr:E.ro with
 | false=>exact rj hr _
 | true=>rw [hr] at h;simp [Pl.fQ,h]
def SB(op:BinOp)(bl:Bool)(x y:AV)(a:AT)(k:KW):Prop:=
 match x,y with
 | .i ki m,.i ki' n=>if ki=ki' then
   match op with
   | .add=>AN a fun r a=>ki.wrap (m+n)=r∧k (.i ki r) st a
   | .sub=>AN a fun r a=>ki.wrap (m - n)=r∧k (.i ki r) st a
   | .mul=>AN a fun r a=>ki.wrap (m*n)=r∧k (.i ki r) st a
   | .quo=>AN a fun r a=>n≠0∧ki.wrap (m.tdiv n)=r∧k (.i ki r) st a
   | .rem=>AN a fun r a=>n≠0∧m.tmod n=r∧k (.i ki r) st a
   | .or=>AN a fun r a=>(if n>m then n else m)=r∧k (.i ki r) st a
   | .eql=>k (.b (m==n)) st a
   | .neq=>k (.b (m !=n)) st a
   | .lss=>k (.b (decide (m<n))) st a
   | .leq=>k (.b (decide (m≤n))) st a
   | .gtr=>k (.b (decide (n<m))) st a
   | .geq=>k (.b (decide (n≤m))) st a
   | _=>False
  else False
 | .b m,.b n=>match bl,op with
  | true,.eql=>k (.b (m==n)) st a
  | true,.neq=>k (.b (!(m==n))) st a
  | _,_=>False
 | .s m,.s n=>match op with
  | .add=>Sz a fun r a=>m.length+n.length≤4611686018427387904∧m++n=r∧k (.s r) st a
  | .eql=>k (.b (m==n)) st a
  | .neq=>k (.b (!(m==n))) st a
  | _=>False
 | _,_=>False
def SC(n:Option Nat)(x:AV)(a:AT)(k:KW):Prop:=
 match x with
 | .p kk off=>A2 E st kk a fun cs a=>match pick n off cs with
  | some (.o _ _)=>k (.r (.c kk off)) st a
  | some y=>fE y.copy (k y st a)
  | none=>False
 | .e x off=>match pick n off x.cl with
  | some y=>k y st a
  | none=>False
 | .q pl i sz off=>l8 E st pl a fun _ es a=>Aa sz es i a fun e a=>match pick n off e.cl with
  | some y=>k y st a
  | none=>False
 | _=>False
def SD(n:Nat)(x y:AV)(yo:bj)(a:AT)(k:KW):Prop:=
 match x with
 | .p kk off=>Mx E kk∧(A2 E st kk a fun cs a=>match y with
  | .o t es=>match yo with
   | .t m=>fE (n==1&&decide (off<cs.length)) (ri E ((st.bT m .u).bm (.c kk off)) kk (cs.set off (.o t es)) a fun st' a=>k .u st' a)
   | .c _=>False
  | .v pl lo len=>pl= .c kk off∧fE (lo==0&&n==1) (l8 E st pl a fun t es a=>tR a fun es' a=>len≤es.length∧es.take len=es'∧(ri E (st.bm (.c kk off)) kk (cs.set off (.o t es')) a fun st' a=>k .u st' a))
  | y=>y.deep kk.dp=true∧fE (y.copy&&y.nc==n&&y.cl.all AV.one&&decide (off+n≤cs.length)) (ri E st kk (putCells cs off y.cl) a fun st' a=>k .u st' a))
 | .q pl i sz off=>E.ro=false∧(l8 E st pl a fun t es a=>FJ a fun e a=>es[i]? =some e∧fE (e.nc==sz&&y.pure&&y.nc==n&&y.cl.all AV.one&&decide (off+n≤sz)) (tR a fun es' a=>es.set i (xn e off y.cl)=es'∧(yT E st (.o t es') pl a fun st' a=>k .u st' a)))
 | _=>False
def A3(x:Option AV)(dflt:Nat)(a:AT)(k:Nat→AT→Prop):Prop:=
 match x with
 | none=>k dflt a
 | some y=>FK y a k
def SE(t sz:Nat)(x:AV)(lo hi:Option AV)(a:AT)(k:KW):Prop:=
 match x with
 | .s l=>A3 lo 0 a fun i a=>A3 hi l.length a fun j a=>Sz a fun r a=>t=0∧i≤j∧j≤l.length∧(l.take j).drop i=r∧k (.s r) st a
 | .l t' es=>A3 lo 0 a fun i a=>A3 hi es.length a fun j a=>tR a fun r a=>t≠0∧es.all (fun e=>e.nc==sz)=true∧i≤j∧j≤es.length∧(es.take j).drop i=r∧k (.l t' r) st a
 | .r pl=>l8 E st pl a fun t' es a=>A3 lo 0 a fun i a=>A3 hi es.length a fun j a=>Sy a fun m a=>fE (t !=0&&t'==t) (i≤j∧j≤es.length∧j - i=m∧k (.v pl i m) st a)
 | _=>False
def A4(t:TypeId)(x:bj)(a:AT)(k:List AV→St→AT→Prop):Prop:=
 match x with
 | .c .n=>k [] st a
 | .c _=>False
 | .t m=>match ax st.fr m with
  | .n=>k [] st a
  | .o t' es=>fE (t'==t) (k es (st.bT m .u) a)
  | .r pl=>E.ro=false∧(l8 E st pl a fun t' es a=>fE (t'==t) (yT E st .u pl a fun st' a=>k es st' a))
  | .v pl lo len=>E.ro=false∧fE (lo==0) (l8 E st pl a fun t' es a=>tR a fun es' a=>len≤es.length∧t'=t∧es.take len=es'∧(yT E st .u pl a fun st' a=>k es' st' a))
  | _=>False
noncomputable def Kr(m:Nat)(f:FuncId)(args:List AV)(a:AT)(k:KW):Prop:=
 match m with
 | 0=>ta E st args a fun ys ts a=>FJ a fun x a=>call G Ω ⟨0,false⟩ f ys (fun _=>none)=some (.ret x,fun _=>none)∧(match ts with
  | []=>fE x.pure (k x st a)
  | ts=>x.pure=true∧x.off ts=true∧k x st a)
 | 1=>ta E st args a fun ys ts a=>FJ a fun x a=>Ω f ys=some x∧(match ts with
  | []=>fE x.pure (k x st a)
  | ts=>x.pure=true∧x.off ts=true∧k x st a)
 | _=>False
noncomputable def N2(f:FuncId)(args:List AV)(a:AT)(k:KW):Prop:=
 match args.all AV.Fu with
 | true=>Kr G Ω E st 0 f args a k
 | false=>E.ro=false∧(st.bx.all fun y=>AV.bn E.dp y.2)=true∧fE (args.all AV.copy) (FJ a fun x a=>EE a fun h2 a=>Mw a fun bx a=>EE a fun h3 a=>
  call G Ω ⟨E.dp+1,false⟩ f args (fun kk=>st.box E.dp kk)=some (.ret x,h2)∧iR E.dp h2 st.bx=bx∧(fun kk:Key=>if kk.dp<E.dp then h2 kk else none)=h3∧
  k x ⟨st.fr.map fun y=>(y.1,if nv y.2=true then .u else y.2),bx,h3⟩ a)
noncomputable def YR(f:FuncId)(args:List AV)(a:AT)(k:KW):Prop:=
 (st.bx.all fun y=>AV.bn E.dp y.2)=true∧fE (args.all AV.copy) (FJ a fun x a=>EE a fun h2 a=>call G Ω ⟨E.dp+1,true⟩ f args (fun kk=>st.box E.dp kk)=some (.ret x,h2)∧fE x.pure (k x st a))
noncomputable def cnW(dd:Nat)(f:FuncId)(args:List AV)(a:AT)(k:KW):Prop:=
 E.ro=false∧(st.bx.all fun y=>AV.bn E.dp y.2)=true∧fE (args.all AV.copy) (tR a fun cs a=>EE a fun h2 a=>Mw a fun bx a=>EE a fun h3 a=>
  call G Ω ⟨E.dp+1,false⟩ f args (fun kk=>st.box E.dp kk)=some (.new cs,h2)∧iR E.dp h2 st.bx=bx∧(fun kk:Key=>if kk.dp<E.dp then h2 kk else none)=h3∧
  pH E.dp ⟨st.fr.map fun y=>(y.1,if nv y.2=true then .u else y.2),bx,h3⟩ dd=true∧
  k (.p ⟨E.dp,dd⟩ 0) ⟨st.fr.map fun y=>(y.1,if nv y.2=true then .u else y.2),(dd,cs)::bx,h3⟩ a)
noncomputable def ckW(dd:Nat)(f:FuncId)(args:List AV)(a:AT)(k:KW):Prop:=
 fE (AV.bS args) (tR a fun cs a=>EE a fun h2 a=>call G Ω ⟨E.dp+1,false⟩ f args (fun _=>none)=some (.new cs,h2)∧(cs.all qc&&pH E.dp st dd)=true∧k (.p ⟨E.dp,dd⟩ 0) {st with bx:=(dd,cs)::st.bx} a)
noncomputable def mq(a:AT)(o:mS)(k:KW):Prop:=
 match o with
 | .mv x=>match st.ev x with
  | .o _ _=>match x with
   | .t n=>k (.r (.s n)) st a
   | .c _=>False
  | y=>k y st a
 | .as x=>match x with
  | .c y=>fE y.pure (k y st a)
  | .t n=>match ax st.fr n with
   | .o t es=>match d with
    | some d=>k (.o t es) ((st.bT n .u).bm (.s d)) a
    | none=>False
   | .v pl lo len=>match d with
    | some d=>BZ a fun own a=>match own with
     | true=>pl= .s d∧fE (lo==0) (l8 E st pl a fun t es a=>tR a fun es' a=>len≤es.length∧es.take len=es'∧k (.o t es') (st.bm (.s d)) a)
     | false=>(pl= .s d→(lo==0)=false)∧k (.v pl lo len) st a
    | none=>False
   | y=>fE (y.copy||z6 y) (k y st a)
 | .pk c x y=>match st.ev c with
  | .b z=>BZ a fun w a=>z=w∧(match w with
   | true=>fE (st.ev x).copy (k (st.ev x) st a)
   | false=>fE (st.ev y).copy (k (st.ev y) st a))
  | _=>False
 | .bx x=>match d with
  | some d=>((st.ev x).deep E.dp&&(st.fr.all (fun y=>y.2.aI ⟨E.dp,d⟩)&&st.bx.all (fun y=>AV.aJ ⟨E.dp,d⟩ y.2)))=true∧
   fE ((st.ev x).copy&&(st.ev x).cl.all AV.one&&lg st.bx d) (k (.p ⟨E.dp,d⟩ 0) {st with bx:=(d,(st.ev x).cl)::st.bx} a)
  | none=>False
 | .al zs=>match d with
  | some d=>(st.fr.all (fun y=>y.2.aI ⟨E.dp,d⟩)&&st.bx.all (fun y=>AV.aJ ⟨E.dp,d⟩ y.2))=true∧fE (lg st.bx d) (k (.p ⟨E.dp,d⟩ 0) {st with bx:=(d,zs)::st.bx} a)
  | none=>False
 | .ld n x=>SC E st n (st.ev x) a k
 | .st n x y=>SD E st n (st.ev x) (st.ev y) y a k
 | .fa off x=>match st.ev x with
  | .p kk o=>k (.p kk (o+off)) st a
  | .e y o=>k (.e y (o+off)) st a
  | .q pl i sz o=>l8 E st pl a fun _ es a=>i<es.length∧k (.q pl i sz (o+off)) st a
  | _=>False
 | .ia sz arr x i=>FK (st.ev i) a fun j a=>SA E st sz arr (st.ev x) x j a k
 | .bo op bl x y=>SB st op bl (st.ev x) (st.ev y) a k
 | .no x=>match st.ev x with
  | .b y=>k (.b (!y)) st a
  | _=>False
 | .ae ks ng x y=>match st.ev x,st.ev y with
  | .a xs,.a ys=>BZ a fun r a=>fP ks xs ys=some r∧k (.b (if ng then !r else r)) st a
  | _,_=>False
 | .cv ki x=>match st.ev x with
  | .i _ n=>AN a fun r a=>ki.wrap n=r∧k (.i ki r) st a
  | _=>False
 | .bs t sz es=>match d with
  | some d=>fE ((es.map st.ev).all fun y=>y.pure&&y.cl.all AV.one&&y.nc==sz) (tR a fun vs a=>es.map st.ev=vs∧k (.o t vs) (st.bm (.s d)) a)
  | none=>False
 | .bd zs fs=>fE (fs.all fun f=>(st.ev f.2.2).copy&&(st.ev f.2.2).nc==f.2.1&&(st.ev f.2.2).cl.all AV.one&&decide (f.1+f.2.1≤zs.length))
   (k (.a (fs.foldl (fun cs f=>putCells cs f.1 (st.ev f.2.2).cl) zs)) st a)
 | .ms t _ by_ x n=>match d with
  | some d=>FK (st.ev n) a fun n a=>tR a fun es a=>n*by_≤140737488355328∧n≤maxLen∧List.replicate n x=es∧k (.o t es) (st.bm (.s d)) a
  | none=>False
 | .sl t sz x lo hi=>SE E st t sz (st.ev x) (lo.map st.ev) (hi.map st.ev) a k
 | .ex x i=>match st.ev x with
  | .tp vs=>match vs[i]? with
   | some y=>k y st a
   | none=>False
  | _=>False
 | .mf f caps=>fE (AV.qx (caps.map st.ev)) (k (.f f (caps.map st.ev)) st a)
 | .ca m f args=>Kr G Ω E st m f (args.map st.ev) a k
 | .cf m x args=>match st.ev x with
  | .f f caps=>Kr G Ω E st m f (args.map st.ev++caps) a k
  | _=>False
 | .c2 f args=>N2 G Ω E st f (args.map st.ev) a k
 | .d2 x args=>match st.ev x with
  | .f f caps=>N2 G Ω E st f (args.map st.ev++caps) a k
  | _=>False
 | .c3 f args=>YR G Ω E st f (args.map st.ev) a k
 | .cn f args=>match d with
  | some dd=>cnW G Ω E st dd f (args.map st.ev) a k
  | none=>False
 | .ck f args=>match d with
  | some dd=>ckW G Ω E st dd f (args.map st.ev) a k
  | none=>False
 | .cr t f args=>match d with
  | some dd=>fE (AV.bS (args.map st.ev)) (Ω f (args.map st.ev)=some (.o t [])∧k (.o t []) (st.bm (.s dd)) a)
  | none=>False
 | .ln str x=>match st.ev x with
  | .s l=>fE str (AN a fun n a=>(l.length:Int)=n∧k (.i .i64 n) st a)
  | y=>fE (!str) (B0 E st y a fun _ es a=>AN a fun n a=>(es.length:Int)=n∧k (.i .i64 n) st a)
 | .ap t sz by_ x y=>match d with
  | some d=>B0 E st (st.ev y) a fun _ ys a=>A4 E st t x a fun es st' a=>tR a fun r a=>
    ys.all (fun e=>e.nc==sz)=true∧(es.length+ys.length)*by_≤140737488355328∧es.length+ys.length≤maxLen∧es++ys=r∧k (.o t r) (st'.bm (.s d)) a
  | none=>False
 | .nc x=>match st.ev x with
  | .p kk o=>k (.p kk o) st a
  | .e y o=>k (.e y o) st a
  | .f g caps=>k (.f g caps) st a
  | _=>False
 | .ch _ _ _ _ _=>False
 | .bg zs fs=>fE (fs.all (I3 st zs.length)) (k (.ag (fs.foldl (sb st) (zs,[])).1 (fs.foldl (sb st) (zs,[])).2) st a)
 | .bxg x=>match d with
  | some dd=>(match st.ev x with
   | .ag cs rs=>fE (cs.all (fun c=>c.copy||Ib c)&&AV.bn E.dp cs&&pH E.dp st dd) (match vu dd {st with bx:=(dd,cs)::st.bx} rs with
    | some st'=>k (.p ⟨E.dp,dd⟩ 0) st' a
    | none=>False)
   | _=>False)
  | none=>False
 | .lk _ _ _ _=>False
end
section
variable {G:nu}{Ω:cK}{E:Env}{st:St}{d:Option Nat}
def Told(o:mS)(k:KW)(G:nu)(Ω:cK)(E:Env)(st:St)(d:Option Nat):Prop:=∃ x st' r,execOp (call G Ω) Ω E st d o=some (x,st')∧k x st' r
theorem Told.mk{o:mS}{k:KW}{x:AV}{st':St}{r:AT}(h:execOp (call G Ω) Ω E st d o=some (x,st'))(hk:k x st' r):Told o k G Ω E st d:=⟨x,st',r,h,hk⟩
theorem vA{sz:Nat}{es:List AV}{j:Nat}{e:AV}{f:AV→AV}(h:es[j]? =some e)(hn:e.nc=sz):elemAt sz st es[j]? f=some (f e,st):=by
 rw [h];simp only [elemAt,Option.bind_some,hn,if_true]
theorem SF{op:BinOp}{bl:Bool}{x y:bj}{a:AT}{k:KW}(h:SB st op bl (st.ev x) (st.ev y) a k):Told (.bo op bl x y) k G Ω E st d:=by
 unfold SB at h
 split at h
 ·rename_i ki m ki' n hx hy
  split at h
  ·rename_i hki
   subst hki
   split at h
   ·obtain ⟨r,a',h1,h2⟩:=qB h
    exact .mk (by simp only [execOp,hx,hy,nr,if_true,pU,h1,Option.bind_some]) h2
   ·obtain ⟨r,a',h1,h2⟩:=qB h
    exact .mk (by simp only [execOp,hx,hy,nr,if_true,pU,h1,Option.bind_some]) h2
   ·obtain ⟨r,a',h1,h2⟩:=qB h
    exact .mk (by simp only [execOp,hx,hy,nr,if_true,pU,h1,Option.bind_some]) h2
   ·obtain ⟨r,a',h0,h1,h2⟩:=qB h
    exact .mk (by simp only [execOp,hx,hy,nr,if_true,pU,if_neg h0,h1,Option.bind_some]) h2
   ·obtain ⟨r,a',h0,h1,h2⟩:=qB h
    exact .mk (by simp only [execOp,hx,hy,nr,if_true,pU,if_neg h0,h1,Option.bind_some]) h2
   ·obtain ⟨r,a',h1,h2⟩:=qB h
    exact .mk (by simp only [execOp,hx,hy,nr,if_true,pU,h1,Option.bind_some]) h2
   ·exact .mk (by simp only [execOp,hx,hy,nr,if_true,pU,Option.bind_some]) h
   ·exact .mk (by simp only [execOp,hx,hy,nr,if_true,pU,Option.bind_some]) h
   ·exact .mk (by simp only [execOp,hx,hy,nr,if_true,pU,Option.bind_some]) h
   ·exact .mk (by simp only [execOp,hx,hy,nr,if_true,pU,Option.bind_some]) h
   ·exact .mk (by simp only [execOp,hx,hy,nr,if_true,pU,Option.bind_some]) h
   ·exact .mk (by simp only [execOp,hx,hy,nr,if_true,pU,Option.bind_some]) h
   ·exact h.elim
  ·exact h.elim
 ·rename_i m n hx hy
  split at h
  ·exact .mk (by simp only [execOp,hx,hy,nr,if_true,Option.bind_some]) h
  ·exact .mk (by simp only [execOp,hx,hy,nr,if_true,Option.bind_some]) h
  ·exact h.elim
 ·rename_i m n hx hy
  split at h
  ·obtain ⟨r,a',h0,h1,h2⟩:=Kq h
   exact .mk (by simp only [execOp,hx,hy,nr,if_pos h0,h1,Option.bind_some]) h2
  ·exact .mk (by simp only [execOp,hx,hy,nr,Option.bind_some]) h
  ·exact .mk (by simp only [execOp,hx,hy,nr,Option.bind_some]) h
  ·exact h.elim
 ·exact h.elim
theorem SG{n:Option Nat}{x:bj}{a:AT}{k:KW}(h:SC E st n (st.ev x) a k):Told (.ld n x) k G Ω E st d:=by
 unfold SC at h
 split at h
 ·rename_i kk off hx
  obtain ⟨cs,r,h1,h2⟩:=tG h
  split at h2
  ·rename_i t es hp
   exact .mk (by simp only [execOp,hx,h1,hp,Option.bind_some]) h2
  ·rename_i y hy hp
   obtain ⟨h3,h4⟩:=cw h2
   refine .mk (x:=y) (st':=st) ?_ h4
   simp only [execOp,hx,h1,hp,Option.bind_some,if_pos h3]
  ·exact h2.elim
 ·rename_i y off hx
  split at h
  ·rename_i z hp
   exact .mk (by simp only [execOp,hx,hp,Option.bind_some]) h
  ·exact h.elim
 ·rename_i pl i sz off hx
  obtain ⟨t,es,r,h1,h2⟩:=fo h
  obtain ⟨e,r',h3,h4,h5⟩:=tT h2
  split at h5
  ·rename_i z hp
   exact .mk (by simp only [execOp,hx,h1,h3,hp,h4,if_true,Option.bind_some]) h5
  ·exact h5.elim
 ·exact h.elim
theorem SH{n:Nat}{x y:bj}{a:AT}{k:KW}(h:SD E st n (st.ev x) (st.ev y) y a k):Told (.st n x y) k G Ω E st d:=by
 unfold SD at h
 split at h
 ·rename_i kk off hx
  obtain ⟨hro,h⟩:=h
  obtain ⟨cs,r,h1,h2⟩:=tG h
  split at h2
  ·rename_i t es hy
   split at h2
   ·rename_i m
    obtain ⟨h3,h4⟩:=cw h2
    obtain ⟨r',h5⟩:=n9 h4
    exact .mk (by simp only [execOp,hx,Ja hro _,if_true,h1,hy,Option.bind_some,if_pos h3]) h5
   ·exact h2.elim
  ·rename_i pl lo len hy
   obtain ⟨rfl,h2⟩:=h2
   obtain ⟨h3,h4⟩:=cw h2
   obtain ⟨t,es,r1,h5,h6⟩:=fo h4
   obtain ⟨es',r2,h7,rfl,h9⟩:=kB h6
   obtain ⟨r',h10⟩:=n9 h9
   simp only [Bool.and_eq_true] at h3
   exact .mk (by simp only [execOp,hx,Ja hro _,if_true,h1,hy,Option.bind_some,h3.1,h3.2,Bool.and_self,decide_true,Bool.true_and,h5,if_pos h7,true_and,and_self]) h10
  ·rename_i y' hy1 hy2
   obtain ⟨h0,h2⟩:=h2
   obtain ⟨h3,h4⟩:=cw h2
   obtain ⟨r',h5⟩:=n9 h4
   have h6:((st.ev y).copy&&(st.ev y).nc==n&&(st.ev y).cl.all AV.one&&(st.ev y).deep kk.dp&&decide (off+n≤cs.length))=true:=by
    simp only [Bool.and_eq_true] at h3 ⊢
    exact ⟨⟨h3.1,h0⟩,h3.2⟩
   refine .mk (x:=.u) (st':=st.aX E.dp kk (putCells cs off (st.ev y).cl)) ?_ h5
   simp only [execOp,hx,Ja hro _,if_true,h1,Option.bind_some,if_pos h6]
 ·rename_i pl i sz off hx
  obtain ⟨hro,h⟩:=h
  obtain ⟨t,es,r,h1,h2⟩:=fo h
  obtain ⟨e,r1,h3,h4⟩:=wD h2
  obtain ⟨h5,h6⟩:=cw h4
  obtain ⟨es',r2,rfl,h8⟩:=kB h6
  obtain ⟨st',r3,h9,h10⟩:=yU h8
  exact .mk (by simp only [execOp,hx,rj hro,if_true,h1,h3,Option.bind_some,if_pos h5,h9]) h10
 ·exact h.elim
theorem tH{x:Option bj}{dflt:Nat}{a:AT}{k:Nat→AT→Prop}(h:A3 (x.map st.ev) dflt a k):∃ j r,l5 st x dflt=some j∧k j r:=by
 cases x with
 | none=>exact ⟨dflt,a,rfl,h⟩
 | some y=>
  obtain ⟨j,r,h1,h2⟩:=Dr (x:=st.ev y) h
  exact ⟨j,r,h1,h2⟩
theorem SI{t sz:Nat}{x:bj}{lo hi:Option bj}{a:AT}{k:KW}(h:SE E st t sz (st.ev x) (lo.map st.ev) (hi.map st.ev) a k):Told (.sl t sz x lo hi) k G Ω E st d:=by
 unfold SE at h
 split at h
 ·rename_i l hx
  obtain ⟨i,r1,h1,h2⟩:=tH h
  obtain ⟨j,r2,h3,h4⟩:=tH h2
  obtain ⟨z,r3,rfl,h5,h6,rfl,h8⟩:=Kq h4
  exact .mk (by simp [execOp,hx,h1,h3,h5,h6]) h8
 ·rename_i t' es hx
  obtain ⟨i,r1,h1,h2⟩:=tH h
  obtain ⟨j,r2,h3,h4⟩:=tH h2
  obtain ⟨z,r3,h0,hall,h5,h6,rfl,h8⟩:=kB h4
  exact .mk (by simp only [execOp,hx,h1,h3,Option.bind_some,hall,bne_iff_ne,ne_eq,h0,not_false_eq_true,h5,h6,decide_true,Bool.and_true,Bool.and_self,if_true]) h8
 ·rename_i pl hx
  obtain ⟨t',es,r0,hr,h⟩:=fo h
  obtain ⟨i,r1,h1,h2⟩:=tH h
  obtain ⟨j,r2,h3,h4⟩:=tH h2
  obtain ⟨m,r3,h5⟩:=Kp h4
  obtain ⟨h6,h7,h8,rfl,h10⟩:=cw h5
  exact .mk (by simp only [execOp,hx,hr,h1,h3,Option.bind_some,h6,h7,h8,decide_true,Bool.and_self,if_true]) h10
 ·exact h.elim
theorem Hv{t:TypeId}{x:bj}{a:AT}{k:List AV→St→AT→Prop}(h:A4 E st t x a k):∃ es st' r,consume E st t x=some (es,st')∧k es st' r:=by
 unfold A4 at h
 split at h
 ·exact ⟨_,_,a,rfl,h⟩
 ·exact h.elim
 ·rename_i m
  split at h
  ·rename_i hx
   exact ⟨_,_,a,by simp only [consume,hx],h⟩
  ·rename_i t' es hx
   obtain ⟨h1,h2⟩:=cw h
   exact ⟨_,_,a,by simp only [consume,hx,if_pos (beq_iff_eq.1 h1)],h2⟩
  ·rename_i pl hx
   obtain ⟨hro,h⟩:=h
   obtain ⟨t',es,r,h1,h2⟩:=fo h
   obtain ⟨h3,h4⟩:=cw h2
   obtain ⟨st',r',h5,h6⟩:=yU h4
   exact ⟨_,_,r',by simp only [consume,hx,rj hro,if_true,h1,Option.bind_some,if_pos (beq_iff_eq.1 h3),h5],h6⟩
  ·rename_i pl lo len hx
   obtain ⟨hro,h⟩:=h
   obtain ⟨h0,h⟩:=cw h
   obtain ⟨t',es,r,h1,h2⟩:=fo h
   obtain ⟨es',r2,h3,h4,rfl,h6⟩:=kB h2
   obtain ⟨st',r',h7,h8⟩:=yU h6
   exact ⟨_,_,r',by simp only [consume,hx,rj hro,h0,Bool.and_self,if_true,h1,Option.bind_some,if_pos (And.intro h3 h4),h7],h8⟩
  ·exact h.elim
theorem SJ{sz:Nat}{arr:Option Nat}{x i:bj}{j:Nat}{a:AT}{k:KW}(hj:pI (st.ev i)=some j)(h:SA E st sz arr (st.ev x) x j a k):Told (.ia sz arr x i) k G Ω E st d:=by
 unfold SA at h
 split at h
 ·rename_i len
  obtain ⟨h1,h⟩:=h
  split at h
  ·rename_i kk o hx
   exact .mk (by simp only [execOp,hj,Option.bind_some,if_pos h1,hx]) h
  ·rename_i y o hx
   exact .mk (by simp only [execOp,hj,Option.bind_some,if_pos h1,hx]) h
  ·exact h.elim
 ·split at h
  ·rename_i t es hx
   obtain ⟨e,r,h1,h2,h3⟩:=tT h
   exact .mk (by simp only [execOp,hj,Option.bind_some,hx];exact vA h1 h2) h3
  ·rename_i t es hx
   split at h
   ·rename_i m
    obtain ⟨e,r,h1,h2,h3⟩:=tT h
    exact .mk (by simp only [execOp,hj,Option.bind_some,hx];exact vA h1 h2) h3
   ·exact h.elim
  ·rename_i pl hx
   obtain ⟨t,es,r0,h0,h⟩:=fo h
   obtain ⟨e,r,h1,h2,h3⟩:=tT h
   exact .mk (by simp only [execOp,hj,Option.bind_some,hx,h0];exact vA h1 h2) h3
  ·rename_i pl lo len hx
   obtain ⟨t,es,r0,h0,h4,h5,h⟩:=fo h
   obtain ⟨e,r,h1,h2,h3⟩:=tT h
   exact .mk (by simp only [execOp,hj,Option.bind_some,hx,if_pos h4,h0,if_pos h5];exact vA h1 h2) h3
  ·exact h.elim
theorem FL{m:Nat}{f:FuncId}{args:List AV}{a:AT}{k:KW}(h:Kr G Ω E st m f args a k):∃ x r,gb (call G Ω) Ω E st m f args=some (x,st)∧k x st r:=by
 unfold Kr at h
 split at h
 ·obtain ⟨ys,ts,r,h1,h2⟩:=pW h
  obtain ⟨x,r1,h3,h4⟩:=wD h2
  have h5:∃ b,(x.pure&&(ts.isEmpty||x.off ts))=true∧b=r1∧k x st b:=by
   split at h4
   ·obtain ⟨h5,h6⟩:=cw h4
    exact ⟨r1,by simp [h5],rfl,h6⟩
   ·exact ⟨r1,by simp [h4.1,h4.2.1],rfl,h4.2.2⟩
  obtain ⟨b,h6,rfl,h7⟩:=h5
  exact ⟨x,b,by simp only [gb,h1,Option.bind_some,h3,h6,if_true],h7⟩
 ·obtain ⟨ys,ts,r,h1,h2⟩:=pW h
  obtain ⟨x,r1,h3,h4⟩:=wD h2
  have h5:∃ b,(x.pure&&(ts.isEmpty||x.off ts))=true∧b=r1∧k x st b:=by
   split at h4
   ·obtain ⟨h5,h6⟩:=cw h4
    exact ⟨r1,by simp [h5],rfl,h6⟩
   ·exact ⟨r1,by simp [h4.1,h4.2.1],rfl,h4.2.2⟩
  obtain ⟨b,h6,rfl,h7⟩:=h5
  exact ⟨x,b,by simp only [gb,h1,Option.bind_some,h3,h6,if_true],h7⟩
 ·exact h.elim
theorem Ks{f:FuncId}{args:List AV}{a:AT}{k:KW}(h:N2 G Ω E st f args a k):∃ x st' r,jv (call G Ω) Ω E st f args=some (x,st')∧k x st' r:=by
 unfold N2 at h
 split at h
 ·rename_i hc
  obtain ⟨x,r,h1,h2⟩:=FL h
  exact ⟨x,st,r,by rw [jv,if_pos hc];exact h1,h2⟩
 ·rename_i hc
  obtain ⟨h1,h2,h⟩:=h
  obtain ⟨h3,h⟩:=cw h
  obtain ⟨x,r1,h⟩:=wD h
  obtain ⟨hp2,r2,h⟩:=tS h
  obtain ⟨bx,r3,h⟩:=Ic h
  obtain ⟨hp3,r4,h4,rfl,rfl,h5⟩:=tS h
  refine ⟨x,st.back E.dp hp2,r4,?_,h5⟩
  rw [jv,if_neg (by rw [hc];simp)]
  simp only [h1,h2,h3,Bool.not_false,Bool.and_self,if_true,h4,Option.bind_some]
theorem SK{f:FuncId}{args:List AV}{a:AT}{k:KW}(h:YR G Ω E st f args a k):∃ x r,qb (call G Ω) E st f args=some (x,st)∧k x st r:=by
 obtain ⟨h1,h⟩:=h
 obtain ⟨h2,h⟩:=cw h
 obtain ⟨x,r1,h⟩:=wD h
 obtain ⟨hp2,r2,h3,h⟩:=tS h
 obtain ⟨h4,h5⟩:=cw h
 exact ⟨x,r2,by simp only [qb,h1,h2,Bool.and_self,if_true,h3,Option.bind_some,h4],h5⟩
theorem FM{o:mS}{a:AT}{k:KW}(h:mq G Ω E st d a o k):Told o k G Ω E st d:=by
 cases o with
 | mv x=>
  simp only [mq] at h
  split at h
  ·rename_i t es hx
   split at h
   ·exact .mk (by simp only [execOp,hx]) h
   ·exact h.elim
  ·rename_i hx
   refine .mk (x:=st.ev x) (st':=st) ?_ h
   simp only [execOp]
 | as x=>
  cases x with
  | c y=>
   obtain ⟨h1,h2⟩:=cw h
   exact .mk (by simp only [execOp,h1,if_true]) h2
  | t n=>
   simp only [mq] at h
   split at h
   ·rename_i t es hx
    split at h
    ·exact .mk (by simp only [execOp,hx,Option.bind_some]) h
    ·exact h.elim
   ·rename_i pl lo len hx
    split at h
    ·rename_i dd
     obtain ⟨own,r,h⟩:=sd h
     cases own with
     | true=>
      obtain ⟨rfl,h⟩:=h
      obtain ⟨h1,h⟩:=cw h
      obtain ⟨t,es,r1,h2,h⟩:=fo h
      obtain ⟨es',r2,h3,rfl,h5⟩:=kB h
      exact .mk (by simp only [execOp,hx,Option.bind_some,h1,decide_true,Bool.and_self,and_self,if_true,h2,if_pos h3]) h5
     | false=>
      obtain ⟨h1,h2⟩:=h
      refine .mk (x:=.v pl lo len) (st':=st) ?_ h2
      simp only [execOp,hx,Option.bind_some]
      rw [if_neg]
      simp only [Bool.and_eq_true,decide_eq_true_eq]
      rintro ⟨h3,h4⟩
      rw [h1 h3] at h4
      cases h4
    ·exact h.elim
   ·rename_i hx1 hx2
    obtain ⟨h1,h2⟩:=cw h
    refine .mk (x:=ax st.fr n) (st':=st) ?_ h2
    simp only [execOp,if_pos h1]
 | pk c x y=>
  simp only [mq] at h
  split at h
  ·rename_i z hc
   obtain ⟨w,r,rfl,h⟩:=sd h
   cases z with
   | true=>
    obtain ⟨h1,h2⟩:=cw h
    exact .mk (by simp only [execOp,hc,qa,Option.bind_some,if_true,h1]) h2
   | false=>
    obtain ⟨h1,h2⟩:=cw h
    exact .mk (by simp only [execOp,hc,qa,Option.bind_some,Bool.false_eq_true,if_false,h1,if_true]) h2
  ·exact h.elim
 | bx x=>
  simp only [mq] at h
  split at h
  ·rename_i dd
   obtain ⟨h1,h⟩:=h
   obtain ⟨h2,h3⟩:=cw h
   simp only [Bool.and_eq_true] at h1 h2
   exact .mk (by simp only [execOp,Option.bind_some,h1.1,h1.2.1,h1.2.2,h2.1.1,h2.1.2,h2.2,Bool.and_self,if_true]) h3
  ·exact h.elim
 | al zs=>
  simp only [mq] at h
  split at h
  ·rename_i dd
   obtain ⟨h1,h⟩:=h
   obtain ⟨h2,h3⟩:=cw h
   simp only [Bool.and_eq_true] at h1
   exact .mk (by simp only [execOp,Option.bind_some,h1.1,h1.2,h2,Bool.and_self,if_true]) h3
  ·exact h.elim
 | ld n x=>exact SG h
 | st n x y=>exact SH h
 | fa off x=>
  simp only [mq] at h
  split at h
  ·rename_i hx;exact .mk (by simp only [execOp,hx]) h
  ·rename_i hx;exact .mk (by simp only [execOp,hx]) h
  ·rename_i hx
   obtain ⟨t,es,r,h1,h2,h3⟩:=fo h
   exact .mk (by simp only [execOp,hx,h1,Option.bind_some,if_pos h2]) h3
  ·exact h.elim
 | ia sz arr x i=>
  obtain ⟨j,r,h1,h2⟩:=Dr (x:=st.ev i) h
  exact SJ h1 h2
 | bo op bl x y=>exact SF h
 | no x=>
  simp only [mq] at h
  split at h
  ·rename_i y hx
   exact .mk (by simp only [execOp,hx,qa,Option.bind_some]) h
  ·exact h.elim
 | ae ks ng x y=>
  simp only [mq] at h
  split at h
  ·rename_i hx hy
   obtain ⟨r,a',h1,h2⟩:=sd h
   exact .mk (by simp only [execOp,hx,hy,h1,Option.bind_some]) h2
  ·exact h.elim
 | cv ki x=>
  simp only [mq] at h
  split at h
  ·rename_i hx
   obtain ⟨r,a',h1,h2⟩:=qB h
   exact .mk (by simp only [execOp,hx,h1]) h2
  ·exact h.elim
 | bs t sz es=>
  simp only [mq] at h
  split at h
  ·obtain ⟨h1,h2⟩:=cw h
   obtain ⟨vs,r,rfl,h3⟩:=kB h2
   exact .mk (by simp only [execOp,Option.bind_some,h1,if_true]) h3
  ·exact h.elim
 | bd zs fs=>
  obtain ⟨h1,h2⟩:=cw h
  exact .mk (by simp only [execOp,h1,if_true]) h2
 | ms t sz by_ x n=>
  simp only [mq] at h
  split at h
  ·obtain ⟨m,r,h1,h2⟩:=Dr h
   obtain ⟨es,r2,h3,h4,rfl,h6⟩:=kB h2
   exact .mk (by simp only [execOp,Option.bind_some,h1,h3,h4,decide_true,Bool.and_self,if_true]) h6
  ·exact h.elim
 | sl t sz x lo hi=>exact SI h
 | ex x i=>
  simp only [mq] at h
  split at h
  ·rename_i vs hx
   split at h
   ·rename_i y hy
    exact .mk (by simp only [execOp,hx,hy,Option.bind_some]) h
   ·exact h.elim
  ·exact h.elim
 | mf f caps=>
  obtain ⟨h1,h2⟩:=cw h
  exact .mk (by simp only [execOp,h1,if_true]) h2
 | ca m f args=>
  obtain ⟨x,r,h1,h2⟩:=FL h
  exact .mk h1 h2
 | cf m x args=>
  simp only [mq] at h
  split at h
  ·rename_i f caps hx
   obtain ⟨x,r,h1,h2⟩:=FL h
   exact .mk (by simp only [execOp,hx];exact h1) h2
  ·exact h.elim
 | c2 f args=>
  obtain ⟨x,st',r,h1,h2⟩:=Ks h
  exact .mk h1 h2
 | d2 x args=>
  simp only [mq] at h
  split at h
  ·rename_i f caps hx
   obtain ⟨x,st',r,h1,h2⟩:=Ks h
   exact .mk (by simp only [execOp,hx];exact h1) h2
  ·exact h.elim
 | c3 f args=>
  obtain ⟨x,r,h1,h2⟩:=SK h
  exact .mk h1 h2
 | cn f args=>
  simp only [mq] at h
  split at h
  ·rename_i dd
   obtain ⟨h1,h2,h⟩:=h
   obtain ⟨h3,h⟩:=cw h
   obtain ⟨cs,r1,h⟩:=kB h
   obtain ⟨hp2,r2,h⟩:=tS h
   obtain ⟨bx,r3,h⟩:=Ic h
   obtain ⟨hp3,r4,h4,rfl,rfl,h5,h6⟩:=tS h
   refine .mk (x:=.p ⟨E.dp,dd⟩ 0) (st':={(st.back E.dp hp2) with bx:=(dd,cs)::(st.back E.dp hp2).bx}) ?_ h6
   have h5':pH E.dp (st.back E.dp hp2) dd=true:=h5
   simp only [execOp,Option.bind_some,wy,h1,h2,h3,Bool.not_false,Bool.and_self,if_true,h4,h5']
  ·exact h.elim
 | ck f args=>
  simp only [mq] at h
  split at h
  ·rename_i dd
   obtain ⟨h1,h⟩:=cw h
   obtain ⟨cs,r1,h⟩:=kB h
   obtain ⟨hp2,r2,h4,h5,h6⟩:=tS h
   exact .mk (by simp only [execOp,Option.bind_some,wz,h1,if_true,h4,h5]) h6
  ·exact h.elim
 | cr t f args=>
  simp only [mq] at h
  split at h
  ·rename_i dd
   obtain ⟨h1,h2,h3⟩:=cw h
   exact .mk (by simp only [execOp,Option.bind_some,Dj,h1,if_true,h2]) h3
  ·exact h.elim
 | ln str x=>
  simp only [mq] at h
  split at h
  ·rename_i l hx
   obtain ⟨h1,h2⟩:=cw h
   obtain ⟨n,r,h3,h4⟩:=qB h2
   exact .mk (by simp only [execOp,hx,h1,if_true,h3]) h4
  ·rename_i hx
   obtain ⟨h1,h2⟩:=cw h
   obtain ⟨t,es,r,h3,h4⟩:=EF h2
   obtain ⟨n,r,h5,h6⟩:=qB h4
   have hs:str=false:=by simpa using h1
   refine .mk (x:=.i .i64 n) (st':=st) ?_ h6
   have hsp:∀ kk o m s,st.ev x≠.sp kk o m s:=fun kk o m s e=>by rw [e] at h3;cases h3
   simp only [execOp,hs,Bool.false_eq_true,if_false]
   simp only [h3,Option.bind_some,h5]
 | ap t sz by_ x y=>
  simp only [mq] at h
  split at h
  ·obtain ⟨t',ys,r,h1,h2⟩:=EF h
   obtain ⟨es,st',r2,h3,h4⟩:=Hv h2
   obtain ⟨z,r3,h5,h6,h7,rfl,h9⟩:=kB h4
   exact .mk (by simp only [execOp,Option.bind_some,h1,h3,h5,h6,h7,decide_true,Bool.and_self,if_true]) h9
  ·exact h.elim
 | nc x=>
  simp only [mq] at h
  split at h
  ·rename_i hx;exact .mk (by simp only [execOp,hx]) h
  ·rename_i hx;exact .mk (by simp only [execOp,hx]) h
  ·rename_i hx;exact .mk (by simp only [execOp,hx]) h
  ·exact h.elim
 | ch f args sl dl ow=>exact (show False from h).elim
 | bg zs fs=>
  obtain ⟨h1,h2⟩:=cw h
  exact .mk (by simp only [execOp,h1,if_true]) h2
 | bxg x=>
  simp only [mq] at h
  split at h
  ·rename_i dd
   split at h
   ·rename_i cs rs hx
    obtain ⟨h1,h2⟩:=cw h
    split at h2
    ·rename_i st' ht
     exact .mk (by simp only [execOp,Option.bind_some,hx,h1,if_true,ht,Option.map_some]) h2
    ·exact h2.elim
   ·exact h.elim
  ·exact h.elim
 | lk n x y lv=>exact (show False from h).elim
end
section
variable (G:nu)(Ω:cK)(E:Env)
abbrev KS:=St→AT→Prop
noncomputable def gW(st:St)(g:dM)(a:AT)(q:KS):Prop:=
 match g.g with
 | none=>mq G Ω E st g.d a g.o fun x st' a=>q (put st' g.d (ew g.fz x)) a
 | some (j,want)=>match ax st.fr j with
  | .b x=>BZ a fun y a=>(x==want)=y∧(match y with
   | true=>mq G Ω E st g.d a g.o fun x st' a=>q (put st' g.d (ew g.fz x)) a
   | false=>q (put st g.d .sk) a)
  | .sk=>q (put st g.d .sk) a
  | _=>False
def A5(dp:Nat)(p:bQ)(v:St)(q:Prop):Prop:=
 match p.p.o with
 | .st _ x y=>(match Ey (v.ev y) with
  | false=>q
  | true=>match v.ev x with
   | .p k _=>k.dp=dp∧fE (p.vb==[k.d]&&(match y with
    | .t m=>p.cs==[m]
    | .c _=>false)) q
   | _=>False)
 | .ap _ _ _ x _=>fE (Dk (v.ev x)==(p.cs.length==2)) q
 | _=>q
theorem Hw{dp:Nat}{p:bQ}{v:St}{q:Prop}(h:A5 dp p v q):gn dp p v=true∧q:=by
 unfold A5 at h
 unfold gn
 split at h
 ·rename_i n x y ho
  simp only [ho]
  split at h
  ·rename_i hy
   exact ⟨by rw [hy];rfl,h⟩
  ·rename_i hy
   split at h
   ·rename_i k off hx
    obtain ⟨h1,h2⟩:=h
    obtain ⟨h3,h4⟩:=cw h2
    refine ⟨?_,h4⟩
    rw [hy,hx]
    simp only [Bool.and_eq_true] at h3
    simp only [h1,decide_true,h3.1,Bool.not_true,Bool.false_or,Bool.true_and]
    exact h3.2
   ·exact h.elim
 ·rename_i ho
  simp only [ho]
  exact cw h
 ·rename_i hne hna
  refine ⟨?_,h⟩
  split
  ·rename_i n x y ho
   exact (hne _ _ _ ho).elim
  ·rename_i ho
   exact (hna _ _ _ _ _ ho).elim
  ·rfl
noncomputable def Jb(st:St)(p:bQ)(a:AT)(q:KS):Prop:=
 fE (ic (view p st) p.p.o) (A5 E.dp p (view p st) (mq G Ω E (view p st) p.p.d a p.p.o fun x v' a=>(a6 E.dp p.nk x&&okB E.dp p.nb x)=true∧q ((effect p (x,v')).app st) a))
noncomputable def dW(st:St)(p:bQ)(a:AT)(q:KS):Prop:=
 match p.lt with
 | true=>match p.p.g with
  | none=>Jb G Ω E st p a q
  | some (j,want)=>match ax st.fr j with
   | .b x=>BZ a fun y a=>(x==want)=y∧(match y with
    | true=>Jb G Ω E st p a q
    | false=>q ((⟨gI p.p.d .sk,[],[],none⟩:bB).app st) a)
   | .sk=>q ((⟨gI p.p.d .sk,[],[],none⟩:bB).app st) a
   | _=>False
 | false=>gW G Ω E st p.p a q
noncomputable def lx(kf kb:List Nat)(gs:List dM)(st:St):Option St:=(kr (call G Ω) Ω E st gs).map fun s=>s.bw kf kb
noncomputable def xv(kf kb:List Nat)(gs:List bQ)(st:St):Option St:=(n6 (call G Ω) Ω E st gs).map fun s=>s.bw kf kb
def SL(d:Option Nat)(m n:Nat)(d':Option Nat):Bool:=(match d,d' with
 | some x,some y=>x==y
 | none,none=>true
 | _,_=>false)&&m==n
noncomputable def yV(kf kb:List Nat):St→List dM→AT→KS→Prop
 | st,[],a,q=>q (st.bw kf kb) a
 | st,g::gs,a,q=>match a with
  | .jb d n b=>(match SL g.d gs.length n d with
   | true=>gh b fun b=>match b with
    | .co (.jn X) r=>lx G Ω E kf kb (g::gs) st=some X∧q X r
    | _=>False
   | false=>gW G Ω E st g (.jb d n b) fun st a=>yV kf kb st gs a q)
  | a=>gW G Ω E st g a fun st a=>yV kf kb st gs a q
noncomputable def yW(kf kb:List Nat):St→List bQ→AT→KS→Prop
 | st,[],a,q=>q (st.bw kf kb) a
 | st,p::ps,a,q=>match a with
  | .jb d n b=>(match SL p.p.d ps.length n d with
   | true=>gh b fun b=>match b with
    | .co (.jn X) r=>xv G Ω E kf kb (p::ps) st=some X∧q X r
    | _=>False
   | false=>dW G Ω E st p (.jb d n b) fun st a=>yW kf kb st ps a q)
  | a=>dW G Ω E st p a fun st a=>yW kf kb st ps a q
def xw(st:St)(p:vt)(a:AT)(q:KS):Prop:=
 match p with
 | .own d t=>match ax st.fr d with
  | .n=>q ((st.bm (.s d)).bT d (.o t [])) a
  | .o _ _=>q st a
  | _=>False
 | .fz d=>match ax st.fr d with
  | .o t es=>q (st.bT d (.l t es)) a
  | _=>False
 | .ownC d off t=>match ax st.fr d with
  | .p k o=>E.ro=false∧(A2 E st k a fun cs a=>match cs[o+off]? with
   | some .n=>ri E (st.bm (.c k (o+off))) k (cs.set (o+off) (.o t [])) a q
   | some (.o _ _)=>q st a
   | _=>False)
  | _=>False
 | .fzC d off=>match ax st.fr d with
  | .p k o=>E.ro=false∧(A2 E st k a fun cs a=>match cs[o+off]? with
   | some (.o t es)=>ri E st k (cs.set (o+off) (.l t es)) a q
   | _=>False)
  | _=>False
 | .fzB d agg=>match ax st.fr d with
  | .p k 0=>k.dp=E.dp∧(match aC st.bx k.d with
   | some cs=>fE (AV.bS cs) (match agg with
    | true=>q {(st.bT d (.e (.a cs) 0)) with bx:=st.bx.filter fun y=>y.1 !=k.d} a
    | false=>match cs with
     | [c]=>q {(st.bT d (.e c 0)) with bx:=st.bx.filter fun y=>y.1 !=k.d} a
     | _=>False)
   | none=>False)
  | _=>False
def Jc:St→List vt→AT→KS→Prop
 | st,[],a,q=>q st a
 | st,p::ps,a,q=>xw E st p a fun st a=>Jc st ps a q
abbrev KX:=aR→St→AT→Prop
noncomputable def cW:AC→St→AT→KX→Prop
 | .sk,st,a,q=>q .nrm st a
 | .rg pre ops kf kb,st,a,q=>Jc E st pre a fun st a=>yV G Ω E kf kb st ops a fun st a=>q .nrm st a
 | .dg pre mks ops kf kb,st,a,q=>Jc E st pre a fun st a=>(mks.all (eG E.dp st)&&ops.all (rJ E.dp st))=true∧(yW G Ω E kf kb st ops a fun st a=>q .nrm st a)
 | .sq x y,st,a,q=>cW x st a fun e st a=>match e with
  | .nrm=>cW y st a q
  | e=>q e st a
 | .ite c x y,st,a,q=>match st.ev c with
  | .b z=>BZ a fun w a=>z=w∧(match w with
   | true=>cW x st a q
   | false=>cW y st a q)
  | _=>False
 | .bl id x,st,a,q=>cW x st a fun e st a=>match e with
  | .ex id'=>if id'=id then q .nrm st a else q (.ex id') st a
  | e=>q e st a
 | .lp (.kp kf kb x),st,a,q=>I9 a fun e st' a=>run G Ω E (.lp (.kp kf kb x)) (st.bw kf kb)=some (e,st')∧q e st' a
 | .lp x,st,a,q=>I9 a fun e st' a=>run G Ω E (.lp x) st=some (e,st')∧q e st' a
 | .ex id,st,a,q=>q (.ex id) st a
 | .rt,st,a,q=>q .ret st a
 | .bad,_,_,_=>False
 | .ru g x y b,st,a,q=>I9 a fun e st' a=>run G Ω E (.ru g x y b) st=some (e,st')∧q e st' a
 | .kp kf kb x,st,a,q=>match a with
  | .fb b=>gh b fun b=>match b with
   | .co (.fr e st') r=>run G Ω E x (st.bw kf kb)=some (e,st')∧q e st' r
   | _=>False
  | _=>cW x (st.bw kf kb) a q
def B3(st:St)(x:AV)(a:AT)(q:AV→AT→Prop):Prop:=
 match x with
 | .o t es=>q (.l t es) a
 | .r (.s d)=>l8 E st (.s d) a fun t es a=>q (.l t es) a
 | .r (.c k off)=>k.dp=E.dp∧(l8 E st (.c k off) a fun t es a=>q (.l t es) a)
 | .v (.s d) lo len=>l8 E st (.s d) a fun t es a=>tR a fun es' a=>lo+len≤es.length∧(es.drop lo).take len=es'∧q (.l t es') a
 | .v (.c _ _) _ _=>False
 | .q _ _ _ _=>False
 | .w _ _ _=>False
 | .ag _ _=>False
 | .bp _ _ _=>False
 | x=>q x a
def Jd(st:St):List AV→AT→(List AV→AT→Prop)→Prop
 | [],a,q=>q [] a
 | x::xs,a,q=>B3 E st x a fun y a=>Jd st xs a fun ys a=>q (y::ys) a
def Je(st:St)(z:RV)(a:AT)(q:AV→AT→Prop):Prop:=
 match z with
 | .t n=>B3 E st (ax st.fr n) a q
 | .c n sz=>match ax st.fr n with
  | .p k off=>k.dp=E.dp∧(match aC st.bx k.d with
   | some cs=>match pick sz off cs with
    | some (.a ds)=>Jd E st ds a fun ds a=>q (.a ds) a
    | some y=>B3 E st y a q
    | none=>False
   | none=>False)
  | _=>False
def My(st:St):List RV→AT→(List AV→Prop)→Prop
 | [],_,q=>q []
 | z::zs,a,q=>Je E st z a fun y a=>My st zs a fun ys=>q (y::ys)
noncomputable def FN(fn:bE)(ys:List AV)(hp:HP)(a:AT)(q:List AV→HP→Prop):Prop:=
 cW G Ω E fn.code ⟨kg 0 ys,[],hp⟩ a fun e st _=>match e with
  | .ex _=>False
  | _=>match fn.res with
   | [.t n]=>match ax st.fr n with
    | .p k 0=>k.dp=E.dp∧(match aC st.bx k.d with
     | some cs=>(cs.all qc)=true∧q cs st.hp
     | none=>False)
    | _=>False
   | _=>False
noncomputable def Jf(fn:bE)(ys:List AV)(hp:HP)(a:AT)(q:AV→HP→Prop):Prop:=
 cW G Ω E fn.code ⟨kg 0 ys,[],hp⟩ a fun e st a=>match e with
  | .ex _=>False
  | _=>My E st fn.res a fun xs=>fE (AV.bS xs) (q (yv xs) st.hp)
end
section
variable {G:nu}{Ω:cK}{E:Env}
theorem N3{st:St}{g:dM}{a:AT}{q:KS}(h:gW G Ω E st g a q):∃ st' r,fS (call G Ω) Ω E st g=some st'∧q st' r:=by
 unfold gW at h
 split at h
 ·rename_i hg
  obtain ⟨x,st',r,h1,h2⟩:=FM h
  exact ⟨_,r,by simp only [fS,hg,h1,Option.bind_some],h2⟩
 ·rename_i j want hg
  split at h
  ·rename_i x hx
   obtain ⟨y,r,rfl,h⟩:=sd h
   split at h
   ·rename_i hy
    obtain ⟨x',st',r,h1,h2⟩:=FM h
    exact ⟨_,r,by simp only [fS,hg,hx,yQ,Option.bind_some,hy,if_true,h1],h2⟩
   ·rename_i hy
    exact ⟨_,r,by simp only [fS,hg,hx,yQ,Option.bind_some,hy,Bool.false_eq_true,if_false],h⟩
  ·rename_i hx
   exact ⟨_,a,by simp only [fS,hg,hx,yQ,Option.bind_some,Bool.false_eq_true,if_false],h⟩
  ·exact h.elim
theorem FO{st:St}{p:bQ}{a:AT}{q:KS}(h:Jb G Ω E st p a q):∃ P r,iT (call G Ω) Ω E p (view p st)=some P∧q (P.app st) r:=by
 obtain ⟨h0,h⟩:=cw h
 obtain ⟨h1,h⟩:=Hw h
 obtain ⟨x,st',r,h2,h3,h4⟩:=FM h
 exact ⟨_,r,by simp only [iT,h0,h1,Bool.and_self,if_true,h2,Option.bind_some,h3],h4⟩
theorem Xn{st:St}{p:bQ}{a:AT}{q:KS}(h:dW G Ω E st p a q):∃ st' r,cR (call G Ω) Ω E st p=some st'∧q st' r:=by
 unfold dW at h
 split at h
 ·rename_i hlt
  split at h
  ·rename_i hg
   obtain ⟨P,r,h1,h2⟩:=FO h
   exact ⟨_,r,by simp only [cR,hlt,if_true,cQ,hg,h1,Option.bind_some],h2⟩
  ·rename_i j want hg
   split at h
   ·rename_i x hx
    obtain ⟨y,r,rfl,h⟩:=sd h
    split at h
    ·rename_i hy
     obtain ⟨P,r,h1,h2⟩:=FO h
     exact ⟨_,r,by simp only [cR,hlt,if_true,cQ,hg,hx,yQ,hy,h1,Option.bind_some],h2⟩
    ·rename_i hy
     exact ⟨_,r,by simp only [cR,hlt,if_true,cQ,hg,hx,yQ,hy,Option.bind_some,Bool.false_eq_true,if_false],h⟩
   ·rename_i hx
    exact ⟨_,a,by simp only [cR,hlt,if_true,cQ,hg,hx,yQ,Option.bind_some,Bool.false_eq_true,if_false],h⟩
   ·exact h.elim
 ·rename_i hlt
  obtain ⟨st',r,h1,h2⟩:=N3 h
  exact ⟨st',r,by simp only [cR,hlt,Bool.false_eq_true,if_false,h1],h2⟩
theorem Dt{kf kb:List Nat} : ∀ {gs:List dM}{st:St}{a:AT}{q:KS},yV G Ω E kf kb st gs a q→∃ st' r,lx G Ω E kf kb gs st=some st'∧q st' r
 | [],st,a,q,h=>⟨_,a,rfl,h⟩
 | g::gs,st,a,q,h=>by
  have key:∀ a',(gW G Ω E st g a' fun st a=>yV G Ω E kf kb st gs a q)→∃ st' r,lx G Ω E kf kb (g::gs) st=some st'∧q st' r:=by
   intro a' h
   obtain ⟨st1,r1,h1,h2⟩:=N3 h
   obtain ⟨st2,r2,h3,h4⟩:=Dt h2
   exact ⟨st2,r2,by simp only [lx,kr,h1,Option.bind_some];exact h3,h4⟩
  unfold yV at h
  split at h
  ·split at h
   ·obtain ⟨b,h⟩:=ei h
    split at h
    ·exact ⟨_,_,h.1,h.2⟩
    ·exact h.elim
   ·exact key _ h
  ·exact key _ h
theorem Du{kf kb:List Nat} : ∀ {gs:List bQ}{st:St}{a:AT}{q:KS},yW G Ω E kf kb st gs a q→∃ st' r,xv G Ω E kf kb gs st=some st'∧q st' r
 | [],st,a,q,h=>⟨_,a,rfl,h⟩
 | g::gs,st,a,q,h=>by
  have key:∀ a',(dW G Ω E st g a' fun st a=>yW G Ω E kf kb st gs a q)→∃ st' r,xv G Ω E kf kb (g::gs) st=some st'∧q st' r:=by
   intro a' h
   obtain ⟨st1,r1,h1,h2⟩:=Xn h
   obtain ⟨st2,r2,h3,h4⟩:=Du h2
   exact ⟨st2,r2,by simp only [xv,n6,h1,Option.bind_some];exact h3,h4⟩
  unfold yW at h
  split at h
  ·split at h
   ·obtain ⟨b,h⟩:=ei h
    split at h
    ·exact ⟨_,_,h.1,h.2⟩
    ·exact h.elim
   ·exact key _ h
  ·exact key _ h
theorem Mz{st:St}{p:vt}{a:AT}{q:KS}(h:xw E st p a q):∃ st' r,gd E st p=some st'∧q st' r:=by
 cases p with
 | own d t=>
  simp only [xw] at h
  split at h
  ·rename_i hx;exact ⟨_,a,by simp only [gd,hx],h⟩
  ·rename_i hx;exact ⟨_,a,by simp only [gd,hx],h⟩
  ·exact h.elim
 | fz d=>
  simp only [xw] at h
  split at h
  ·rename_i hx;exact ⟨_,a,by simp only [gd,hx],h⟩
  ·exact h.elim
 | ownC d off t=>
  simp only [xw] at h
  split at h
  ·rename_i k o hx
   obtain ⟨hro,h⟩:=h
   obtain ⟨cs,r,h1,h2⟩:=tG h
   split at h2
   ·rename_i hc
    obtain ⟨r',h3⟩:=n9 h2
    exact ⟨_,r',by simp only [gd,hx,rj hro,if_true,h1,Option.bind_some,hc],h3⟩
   ·rename_i hc
    exact ⟨_,r,by simp only [gd,hx,rj hro,if_true,h1,Option.bind_some,hc],h2⟩
   ·exact h2.elim
  ·exact h.elim
 | fzC d off=>
  simp only [xw] at h
  split at h
  ·rename_i k o hx
   obtain ⟨hro,h⟩:=h
   obtain ⟨cs,r,h1,h2⟩:=tG h
   split at h2
   ·rename_i t es hc
    obtain ⟨r',h3⟩:=n9 h2
    exact ⟨_,r',by simp only [gd,hx,rj hro,if_true,h1,Option.bind_some,hc],h3⟩
   ·exact h2.elim
  ·exact h.elim
 | fzB d agg=>
  simp only [xw] at h
  split at h
  ·rename_i k hx
   obtain ⟨h1,h⟩:=h
   split at h
   ·rename_i cs hb
    obtain ⟨h2,h⟩:=cw h
    split at h
    ·exact ⟨_,a,by simp only [gd,hx,if_pos h1,hb,Option.bind_some,if_pos h2,if_true],h⟩
    ·split at h
     ·exact ⟨_,a,by simp only [gd,hx,if_pos h1,hb,Option.bind_some,if_pos h2,Bool.false_eq_true,if_false],h⟩
     ·exact h.elim
   ·exact h.elim
  ·exact h.elim
theorem Dv:∀ {ps:List vt}{st:St}{a:AT}{q:KS},Jc E st ps a q→∃ st' r,s8 E st ps=some st'∧q st' r
 | [],st,a,q,h=>⟨st,a,rfl,h⟩
 | p::ps,st,a,q,h=>by
  obtain ⟨st1,r1,h1,h2⟩:=Mz h
  obtain ⟨st2,r2,h3,h4⟩:=Dv h2
  exact ⟨st2,r2,by simp only [s8,h1,Option.bind_some,h3],h4⟩
theorem rK:∀ (c:AC){st:St}{a:AT}{q:KX},cW G Ω E c st a q→∃ e st' r,run G Ω E c st=some (e,st')∧q e st' r
 | .sk,st,a,q,h=>⟨_,_,a,wA E st,by simpa only [cW] using h⟩
 | .rg pre ops kf kb,st,a,q,h=>by
  simp only [cW] at h
  obtain ⟨st1,r1,h1,h2⟩:=Dv h
  obtain ⟨st2,r2,h3,h4⟩:=Dt h2
  obtain ⟨st3,h5,rfl⟩:=Option.map_eq_some_iff.1 h3
  exact ⟨_,_,r2,by rw [wB,h1,Option.bind_some,h5];rfl,h4⟩
 | .dg pre mks ops kf kb,st,a,q,h=>by
  simp only [cW] at h
  obtain ⟨st1,r1,h1,h0,h2⟩:=Dv h
  obtain ⟨st2,r2,h3,h4⟩:=Du h2
  obtain ⟨st3,h5,rfl⟩:=Option.map_eq_some_iff.1 h3
  exact ⟨_,_,r2,by rw [JW,h1,Option.bind_some,if_pos h0,h5];rfl,h4⟩
 | .sq x y,st,a,q,h=>by
  simp only [cW] at h
  obtain ⟨e,st1,r1,h1,h2⟩:=rK x h
  cases e with
  | nrm=>
   obtain ⟨e,st2,r2,h3,h4⟩:=rK y h2
   exact ⟨e,st2,r2,by rw [nx,h1];exact h3,h4⟩
  | ex id=>exact ⟨_,_,r1,by rw [nx,h1];rfl,h2⟩
  | ret=>exact ⟨_,_,r1,by rw [nx,h1];rfl,h2⟩
 | .ite c x y,st,a,q,h=>by
  simp only [cW] at h
  split at h
  ·rename_i z hc
   obtain ⟨w,r,rfl,h⟩:=sd h
   cases z with
   | true=>
    obtain ⟨e,st1,r1,h1,h2⟩:=rK x h
    exact ⟨e,st1,r1,by rw [run_ite,hc];exact h1,h2⟩
   | false=>
    obtain ⟨e,st1,r1,h1,h2⟩:=rK y h
    exact ⟨e,st1,r1,by rw [run_ite,hc];exact h1,h2⟩
  ·exact h.elim
 | .bl id x,st,a,q,h=>by
  simp only [cW] at h
  obtain ⟨e,st1,r1,h1,h2⟩:=rK x h
  cases e with
  | nrm=>exact ⟨_,_,r1,by rw [pr,h1];rfl,h2⟩
  | ret=>exact ⟨_,_,r1,by rw [pr,h1];rfl,h2⟩
  | ex id'=>
   simp only at h2
   split at h2
   ·rename_i hi
    exact ⟨_,_,r1,by rw [pr,h1];simp only [Option.bind_some,inBlock,hi,if_true],h2⟩
   ·rename_i hi
    exact ⟨_,_,r1,by rw [pr,h1];simp only [Option.bind_some,inBlock,hi,if_false],h2⟩
 | .lp x,st,a,q,h=>by
  cases x with
  | kp kf kb x=>
   simp only [cW] at h
   obtain ⟨e,st1,r1,h1,h2⟩:=Dq h
   refine ⟨e,st1,r1,?_,h2⟩
   exact (Dp G Ω E ⟨kf,kb,x⟩ st).trans h1
  | _=>
   simp only [cW] at h
   obtain ⟨e,st1,r1,h1,h2⟩:=Dq h
   exact ⟨e,st1,r1,h1,h2⟩
 | .ex id,st,a,q,h=>⟨_,_,a,JV E st id,by simpa only [cW] using h⟩
 | .ru g x y b,st,a,q,h=>by
  simp only [cW] at h
  obtain ⟨e,st1,r1,h1,h2⟩:=Dq h
  exact ⟨e,st1,r1,h1,h2⟩
 | .rt,st,a,q,h=>⟨_,_,a,qz E st,by simpa only [cW] using h⟩
 | .kp kf kb x,st,a,q,h=>by
  unfold cW at h
  split at h
  ·obtain ⟨b,h⟩:=ei h
   split at h
   ·exact ⟨_,_,_,by rw [pv];exact h.1,h.2⟩
   ·exact h.elim
  ·obtain ⟨e,st1,r1,h1,h2⟩:=rK x h
   exact ⟨e,st1,r1,by rw [pv];exact h1,h2⟩
theorem A6{st:St}{x:AV}{a:AT}{q:AV→AT→Prop}(h:B3 E st x a q):∃ y r,st.l6 E.dp x=some y∧q y r:=by
 unfold B3 at h
 split at h
 ·exact ⟨_,a,rfl,h⟩
 ·obtain ⟨t,es,r,h1,h2⟩:=fo h
  exact ⟨_,r,by simp only [St.l6,h1,Option.bind_some],h2⟩
 ·obtain ⟨h0,h⟩:=h
  obtain ⟨t,es,r,h1,h2⟩:=fo h
  exact ⟨_,r,by simp only [St.l6,if_pos h0,h1,Option.bind_some],h2⟩
 ·obtain ⟨t,es,r,h1,h2⟩:=fo h
  obtain ⟨es',r,h3,rfl,h5⟩:=kB h2
  exact ⟨_,r,by simp only [St.l6,h1,Option.bind_some,if_pos h3],h5⟩
 ·exact h.elim
 ·exact h.elim
 ·exact h.elim
 ·exact h.elim
 ·exact h.elim
 ·rename_i h1 h2 h3 h4 h5 h6 h7 h8 h9
  refine ⟨x,a,?_,h⟩
  unfold St.l6
  split
  ·exact (h1 _ _ rfl).elim
  ·exact (h2 _ rfl).elim
  ·exact (h3 _ _ rfl).elim
  ·exact (h4 _ _ _ rfl).elim
  ·exact (h7 _ _ _ rfl).elim
  ·exact (h8 _ _ rfl).elim
  ·exact (h9 _ _ _ rfl).elim
  ·rfl
theorem FP{st:St} : ∀ {xs:List AV}{a:AT}{q:List AV→AT→Prop},Jd E st xs a q→∃ ys r,st.Dl E.dp xs=some ys∧q ys r
 | [],a,q,h=>⟨[],a,rfl,h⟩
 | x::xs,a,q,h=>by
  obtain ⟨y,r,h1,h2⟩:=A6 h
  obtain ⟨ys,r2,h3,h4⟩:=FP h2
  exact ⟨_,r2,by simp only [St.Dl,h1,h3,Option.bind_some],h4⟩
theorem MA{st:St}{z:RV}{a:AT}{q:AV→AT→Prop}(h:Je E st z a q):∃ y r,st.vT E z=some y∧q y r:=by
 cases z with
 | t n=>exact A6 h
 | c n sz=>
  simp only [Je] at h
  split at h
  ·rename_i k off hx
   obtain ⟨h0,h⟩:=h
   split at h
   ·rename_i cs hb
    split at h
    ·rename_i ds hp
     obtain ⟨ys,r,h1,h2⟩:=FP h
     exact ⟨_,r,by simp only [St.vT,hx,if_pos h0,hb,hp,h1,Option.bind_some],h2⟩
    ·rename_i y hy hp
     obtain ⟨z,r,h1,h2⟩:=A6 h
     refine ⟨z,r,?_,h2⟩
     simp only [St.vT,hx,if_pos h0,hb,hp,Option.bind_some,h1]
    ·exact h.elim
   ·exact h.elim
  ·exact h.elim
theorem Dw{st:St} : ∀ {zs:List RV}{a:AT}{q:List AV→Prop},My E st zs a q→∃ xs,st.pq E zs=some xs∧q xs
 | [],a,q,h=>⟨[],rfl,h⟩
 | z::zs,a,q,h=>by
  obtain ⟨y,r,h1,h2⟩:=MA h
  obtain ⟨ys,h3,h4⟩:=Dw h2
  exact ⟨_,by simp only [St.pq,h1,h3,Option.bind_some],h4⟩
theorem MB{f:FuncId}{fn:bE}{ys:List AV}{hp:HP}{q:AV→HP→Prop}(hG:G f=some fn)(a:AT)(h:Jf G Ω E fn ys hp a q):∃ x hp',call G Ω E f ys hp=some (.ret x,hp')∧q x hp':=by
 obtain ⟨e,st,r,h1,h2⟩:=rK fn.code h
 cases e with
 | ex id=>exact h2.elim
 | nrm=>
  obtain ⟨xs,h3,h4⟩:=Dw h2
  obtain ⟨h5,h6⟩:=cw h4
  exact ⟨_,_,by rw [rf,hG,Option.bind_some,h1];simp only [Option.bind_some,St.end_,St.result,h3,h5,if_true],h6⟩
 | ret=>
  obtain ⟨xs,h3,h4⟩:=Dw h2
  obtain ⟨h5,h6⟩:=cw h4
  exact ⟨_,_,by rw [rf,hG,Option.bind_some,h1];simp only [Option.bind_some,St.end_,St.result,h3,h5,if_true],h6⟩
theorem SM{st:St}{rs:List RV}{n:Nat}{k:Key}{cs:List AV}(h1:rs=[.t n])(h2:ax st.fr n= .p k 0)(h3:k.dp=E.dp)(h4:aC st.bx k.d=some cs)(h5:cs.all qc=true):st.end_ E rs=some (.new cs):=by
 subst h1
 have hr:st.result E [.t n]=none:=by simp [St.result,St.pq,St.vT,h2,St.l6,AV.bS,AV.pure]
 simp only [St.end_,hr,St.pJ,h2,if_pos h3,h4,Option.bind_some,h5,if_true,Option.map_some]
theorem Kt{f:FuncId}{fn:bE}{ys:List AV}{hp:HP}{q:List AV→HP→Prop}(hG:G f=some fn)(a:AT)(h:FN G Ω E fn ys hp a q):∃ cs hp',call G Ω E f ys hp=some (.new cs,hp')∧q cs hp':=by
 obtain ⟨e,st,r,h1,h2⟩:=rK fn.code h
 have key:∀ {P:Prop},(match fn.res with
   | [.t n]=>match ax st.fr n with
    | .p k 0=>k.dp=E.dp∧(match aC st.bx k.d with
     | some cs=>(cs.all qc)=true∧q cs st.hp
     | none=>False)
    | _=>False
   | _=>False)→(∀ cs,st.end_ E fn.res=some (.new cs)→q cs st.hp→P)→P:=by
  intro P h2 hP
  split at h2
  ·rename_i n hres
   split at h2
   ·rename_i k hk
    obtain ⟨h3,h4⟩:=h2
    split at h4
    ·rename_i cs hb
     exact hP cs (SM hres hk h3 hb h4.1) h4.2
    ·exact h4.elim
   ·exact h2.elim
  ·exact h2.elim
 cases e with
 | ex id=>exact h2.elim
 | nrm=>exact key h2 fun cs h3 h4=>⟨cs,_,by rw [rf,hG,Option.bind_some,h1];simp only [Option.bind_some,h3],h4⟩
 | ret=>exact key h2 fun cs h3 h4=>⟨cs,_,by rw [rf,hG,Option.bind_some,h1];simp only [Option.bind_some,h3],h4⟩
theorem SN{R:Type}{f:FuncId}{fn:bE}{ys:List AV}{hp:HP}{Y:R→aW×HP}{r:R}{T:Prop}(hG:G f=some fn)(a:AT)(h:T)(he:T=FN G Ω E fn ys hp a fun y h=>(aW.new y,h)=Y r):call G Ω E f ys hp=some (Y r):=by
 obtain ⟨y,h',h1,h2⟩:=Kt hG a (he▸h)
 rw [←h2];exact h1
theorem Xo{R:Type}{f:FuncId}{fn:bE}{ys:List AV}{hp:HP}{Y:R→aW×HP}{r:R}{T:Prop}(hG:G f=some fn)(a:AT)(h:T)(he:T=Jf G Ω E fn ys hp a fun y h=>(aW.ret y,h)=Y r):call G Ω E f ys hp=some (Y r):=by
 obtain ⟨y,h',h1,h2⟩:=MB hG a (he▸h)
 rw [←h2];exact h1
theorem runT{R:Type}{c:AC}{st:St}{Y:R→aR×St}{r:R}{T:Prop}(a:AT)(h:T)(he:T=cW G Ω E c st a fun e s _=>(e,s)=Y r):run G Ω E c st=some (Y r):=by
 obtain ⟨e,s,_,h1,h2⟩:=rK c (he▸h)
 rw [←h2];exact h1
theorem Xp{R:Type}{kf kb:List Nat}{gs:List dM}{st:St}{Y:R→St}{r:R}{T:Prop}(a:AT)(h:T)(he:T=yV G Ω E kf kb st gs a fun s _=>s=Y r):lx G Ω E kf kb gs st=some (Y r):=by
 obtain ⟨s,_,h1,h2⟩:=Dt (he▸h)
 rw [←h2];exact h1
theorem Xq{R:Type}{kf kb:List Nat}{gs:List bQ}{st:St}{Y:R→St}{r:R}{T:Prop}(a:AT)(h:T)(he:T=yW G Ω E kf kb st gs a fun s _=>s=Y r):xv G Ω E kf kb gs st=some (Y r):=by
 obtain ⟨s,_,h1,h2⟩:=Du (he▸h)
 rw [←h2];exact h1
def N4(kf kb:List Nat):aR→St→St⊕(aR×St)
 | .nrm,s=>.inl (s.bw kf kb)
 | e,s=>.inr (e,s)
theorem ai{a b:Prop}(x:a)(y:b):a∧b:=⟨x,y⟩
theorem tt:true=true:=rfl
theorem gf:(false==true)=false:=rfl
theorem ht:(true==false)=false:=rfl
theorem hf:(false==false)=true:=rfl
abbrev W(w:List AV)(n:Nat):AV:=w.getD n .u
abbrev bt(r:AT):AT:=.co (.b true) r
abbrev bf(r:AT):AT:=.co (.b false) r
abbrev ao(x:YQ)(r:AT):AT:=.co x r
theorem ff:false=false:=rfl
end
end Go.Proofs.YtdpjofmmokaobaaGreat.A
