/- Paths: what is told of a run (which way it goes, what an element is, what a call answers) gives what must be shown, and nothing else; all else is reckoned. -/
import Derived.Test.YtkkkkondjclcnaaGreatAbs3
import Derived.KernelRfl
set_option linter.unusedSectionVars false
set_option linter.unusedVariables false
set_option linter.unusedSimpArgs false
set_option linter.constructorNameAsVariable false
namespace Go.Proofs.YtkkkkondjclcnaaGreat.A
open Go
inductive JS where
 | b (x:Bool)
 | n (x:Nat)
 | i (x:Int)
 | v (x:AV)
 | l (es:List AV)
 | s (x:List UInt8)
 | h (hp:HP)
 | bx (bs:List (Nat×List AV))
 | lp (e:aI) (st:St)
 | fr (e:aI) (st:St)
 | jn (st:St)
inductive AT:Type 1 where
 | nil
 | no
 | co (x:JS) (r:AT)
 | or (a b:AT)
 | ex {α:Type} (f:α→AT)
 | jb (d:Option Nat) (n:Nat) (b:AT)
 | fb (b:AT)
def gR:AT→(AT→Prop)→Prop
 | .or a b,k=>gR a k∨gR b k
 | .ex f,k=>∃ x,gR (f x) k
 | .no,_=>False
 | a,k=>k a
theorem ef{k:AT→Prop} : ∀ {a:AT},gR a k→∃ b,k b
 | .or a b,h=>by
  rw [gR] at h
  rcases h with h | h
  ·exact ef h
  ·exact ef h
 | .ex f,h=>by
  rw [gR] at h
  obtain ⟨x,h⟩:=h
  exact ef h
 | .no,h=>h.elim
 | .nil,h=>⟨_,h⟩
 | .co _ _,h=>⟨_,h⟩
 | .jb _ _ _,h=>⟨_,h⟩
 | .fb _,h=>⟨_,h⟩
def Fl(a:AT)(k:Bool→AT→Prop):Prop:=gR a fun a=>match a with
 | .co (.b x) r=>k x r
 | _=>False
def UI(a:AT)(k:Nat→AT→Prop):Prop:=gR a fun a=>match a with
 | .co (.n x) r=>k x r
 | _=>False
def CZ(a:AT)(k:Int→AT→Prop):Prop:=gR a fun a=>match a with
 | .co (.i x) r=>k x r
 | _=>False
def G2(a:AT)(k:AV→AT→Prop):Prop:=gR a fun a=>match a with
 | .co (.v x) r=>k x r
 | _=>False
def wH(a:AT)(k:List AV→AT→Prop):Prop:=gR a fun a=>match a with
 | .co (.l x) r=>k x r
 | _=>False
def UJ(a:AT)(k:List UInt8→AT→Prop):Prop:=gR a fun a=>match a with
 | .co (.s x) r=>k x r
 | _=>False
def JT(a:AT)(k:HP→AT→Prop):Prop:=gR a fun a=>match a with
 | .co (.h x) r=>k x r
 | _=>False
def UK(a:AT)(k:List (Nat×List AV)→AT→Prop):Prop:=gR a fun a=>match a with
 | .co (.bx x) r=>k x r
 | _=>False
def K6(a:AT)(k:aI→St→AT→Prop):Prop:=gR a fun a=>match a with
 | .co (.lp e st) r=>k e st r
 | _=>False
def gk(b:Bool)(p:Prop):Prop:=match b with
 | true=>p
 | false=>False
theorem vn{a:AT}{k:Bool→AT→Prop}(h:Fl a k):∃ x r,k x r:=by
 obtain ⟨b,h⟩:=ef h
 split at h
 ·exact ⟨_,_,h⟩
 ·exact h.elim
theorem MA{a:AT}{k:Nat→AT→Prop}(h:UI a k):∃ x r,k x r:=by
 obtain ⟨b,h⟩:=ef h
 split at h
 ·exact ⟨_,_,h⟩
 ·exact h.elim
theorem tH{a:AT}{k:Int→AT→Prop}(h:CZ a k):∃ x r,k x r:=by
 obtain ⟨b,h⟩:=ef h
 split at h
 ·exact ⟨_,_,h⟩
 ·exact h.elim
theorem xC{a:AT}{k:AV→AT→Prop}(h:G2 a k):∃ x r,k x r:=by
 obtain ⟨b,h⟩:=ef h
 split at h
 ·exact ⟨_,_,h⟩
 ·exact h.elim
theorem l9{a:AT}{k:List AV→AT→Prop}(h:wH a k):∃ x r,k x r:=by
 obtain ⟨b,h⟩:=ef h
 split at h
 ·exact ⟨_,_,h⟩
 ·exact h.elim
theorem MB{a:AT}{k:List UInt8→AT→Prop}(h:UJ a k):∃ x r,k x r:=by
 obtain ⟨b,h⟩:=ef h
 split at h
 ·exact ⟨_,_,h⟩
 ·exact h.elim
theorem zT{a:AT}{k:HP→AT→Prop}(h:JT a k):∃ x r,k x r:=by
 obtain ⟨b,h⟩:=ef h
 split at h
 ·exact ⟨_,_,h⟩
 ·exact h.elim
theorem Ra{a:AT}{k:List (Nat×List AV)→AT→Prop}(h:UK a k):∃ x r,k x r:=by
 obtain ⟨b,h⟩:=ef h
 split at h
 ·exact ⟨_,_,h⟩
 ·exact h.elim
theorem D9{a:AT}{k:aI→St→AT→Prop}(h:K6 a k):∃ e st r,k e st r:=by
 obtain ⟨b,h⟩:=ef h
 split at h
 ·exact ⟨_,_,_,h⟩
 ·exact h.elim
theorem bW{b:Bool}{p:Prop}(h:gk b p):b=true∧p:=by
 cases b with
 | true=>exact ⟨rfl,h⟩
 | false=>exact h.elim
def G3(x:AV)(a:AT)(k:Nat→AT→Prop):Prop:=match x with
 | .i _ n=>UI a fun j r=>n=(j:Int)∧k j r
 | _=>False
theorem Ea{x:AV}{a:AT}{k:Nat→AT→Prop}(h:G3 x a k):∃ j r,qO x=some j∧k j r:=by
 unfold G3 at h;split at h
 ·obtain ⟨j,r,h1,h2⟩:=MA h
  subst h1
  exact ⟨j,r,by simp [qO],h2⟩
 ·exact h.elim
def BT(E:Env)(st:St)(k:Key)(a:AT)(q:List AV→AT→Prop):Prop:=
 Fl a fun own r=>match own with
  | true=>k.dp=E.dp∧(match aq st.bx k.d with
   | some cs=>q cs r
   | none=>False)
  | false=>wH r fun cs r=>k.dp≠E.dp∧st.hp k=some cs∧q cs r
theorem u9{E:Env}{st:St}{k:Key}{a:AT}{q:List AV→AT→Prop}(h:BT E st k a q):∃ cs r,st.box E.dp k=some cs∧q cs r:=by
 obtain ⟨own,r,h⟩:=vn h
 cases own with
 | true=>
  obtain ⟨h1,h2⟩:=h
  split at h2
  ·rename_i cs hb
   exact ⟨cs,r,by simp only [St.box,if_pos h1,hb],h2⟩
  ·exact h2.elim
 | false=>
  obtain ⟨cs,r,h1,h2,h3⟩:=l9 h
  exact ⟨cs,r,by simp only [St.box,if_neg h1,h2],h3⟩
def sy(E:Env)(st:St)(k:Key)(cs:List AV)(a:AT)(q:St→AT→Prop):Prop:=
 Fl a fun own r=>match own with
  | true=>k.dp=E.dp∧q {st with bx:=kK st.bx k.d cs} r
  | false=>JT r fun hp r=>k.dp≠E.dp∧ab st.hp k cs=hp∧q {st with hp:=hp} r
theorem oW{E:Env}{st:St}{k:Key}{cs:List AV}{a:AT}{q:St→AT→Prop}(h:sy E st k cs a q):∃ r,q (st.aC E.dp k cs) r:=by
 obtain ⟨own,r,h⟩:=vn h
 cases own with
 | true=>
  obtain ⟨h1,h2⟩:=h
  exact ⟨r,by simp only [St.aC,if_pos h1];exact h2⟩
 | false=>
  obtain ⟨hp,r,h1,h2,h3⟩:=zT h
  subst h2
  exact ⟨r,by simp only [St.aC,if_neg h1];exact h3⟩
def mN(E:Env)(st:St)(pl:Pl)(a:AT)(q:TypeId→List AV→AT→Prop):Prop:=
 match pl with
 | .s d=>match aj st.fr d with
  | .o t es=>q t es a
  | _=>False
 | .c k off=>BT E st k a fun cs r=>match cs[off]? with
  | some (.o t es)=>q t es r
  | _=>False
theorem fk{E:Env}{st:St}{pl:Pl}{a:AT}{q:TypeId→List AV→AT→Prop}(h:mN E st pl a q):∃ t es r,st.rowAt E.dp pl=some (t,es)∧q t es r:=by
 unfold mN at h
 split at h
 ·split at h
  ·rename_i t es hx
   exact ⟨t,es,a,by simp only [St.rowAt,hx],h⟩
  ·exact h.elim
 ·obtain ⟨cs,r,h1,h2⟩:=u9 h
  split at h2
  ·rename_i t es hx
   exact ⟨t,es,r,by simp only [St.rowAt,h1,hx],h2⟩
  ·exact h2.elim
def zU(E:Env)(st:St)(x:AV)(pl:Pl)(a:AT)(q:St→AT→Prop):Prop:=
 match pl with
 | .s d=>q (st.bR d x) a
 | .c k off=>BT E st k a fun cs r=>sy E st k (cs.set off x) r q
theorem zV{E:Env}{st:St}{x:AV}{pl:Pl}{a:AT}{q:St→AT→Prop}(h:zU E st x pl a q):∃ st' r,st.putAt E.dp x pl=some st'∧q st' r:=by
 unfold zU at h
 split at h
 ·exact ⟨_,a,rfl,h⟩
 ·obtain ⟨cs,r,h1,h2⟩:=u9 h
  obtain ⟨r',h3⟩:=oW h2
  exact ⟨_,r',by simp only [St.putAt,h1],h3⟩
def A9(sz:Nat)(es:List AV)(j:Nat)(a:AT)(q:AV→AT→Prop):Prop:=G2 a fun e r=>es[j]? =some e∧gk (e.nc==sz) (q e r)
theorem vo{sz:Nat}{es:List AV}{j:Nat}{a:AT}{q:AV→AT→Prop}(h:A9 sz es j a q):∃ e r,es[j]? =some e∧e.nc=sz∧q e r:=by
 obtain ⟨e,r,h1,h2⟩:=xC h
 obtain ⟨h3,h4⟩:=bW h2
 exact ⟨e,r,h1,by simpa using h3,h4⟩
theorem sA{E:Env}(h:E.ro=false)(pl:Pl):pl.fK E=true:=by cases pl<;>simp [Pl.fK,h]
def Da(E:Env)(st:St)(x:AV)(a:AT)(q:TypeId→List AV→AT→Prop):Prop:=
 match x with
 | .l t es=>q t es a
 | .n=>q 0 [] a
 | .o t es=>q t es a
 | .r pl=>mN E st pl a q
 | .v pl lo len=>mN E st pl a fun t es r=>wH r fun es' r=>lo+len≤es.length∧(es.drop lo).take len=es'∧q t es' r
 | _=>False
theorem Fm{E:Env}{st:St}{x:AV}{a:AT}{q:TypeId→List AV→AT→Prop}(h:Da E st x a q):∃ t es r,st.elems E.dp x=some (t,es)∧q t es r:=by
 unfold Da at h
 split at h
 ·exact ⟨_,_,a,rfl,h⟩
 ·exact ⟨_,_,a,rfl,h⟩
 ·exact ⟨_,_,a,rfl,h⟩
 ·obtain ⟨t,es,r,h1,h2⟩:=fk h
  exact ⟨t,es,r,h1,h2⟩
 ·obtain ⟨t,es,r,h1,h2⟩:=fk h
  obtain ⟨es',r',h3,h4,h5⟩:=l9 h2
  subst h4
  exact ⟨t,_,r',by simp only [St.elems,h1,if_pos h3],h5⟩
 ·exact h.elim
def uI(E:Env)(st:St):List AV→AT→(List AV→List TypeId→AT→Prop)→Prop
 | [],a,q=>q [] [] a
 | x::xs,a,q=>(match x with
  | .o t es=>uI E st xs a fun ys ts r=>q (.l t es::ys) ([t]++ts) r
  | .r pl=>mN E st pl a fun t es r=>uI E st xs r fun ys ts r=>q (.l t es::ys) ([t]++ts) r
  | .v pl lo len=>mN E st pl a fun t es r=>wH r fun es' r=>lo+len≤es.length∧(es.drop lo).take len=es'∧uI E st xs r fun ys ts r=>q (.l t es'::ys) ([t]++ts) r
  | .w _ t x=>uI E st xs a fun ys ts r=>q (x::ys) ([t]++ts) r
  | x=>gk x.pure (uI E st xs a fun ys ts r=>q (x::ys) ([]++ts) r))
theorem rj{E:Env}{st:St} : ∀ {xs:List AV}{a:AT}{q:List AV→List TypeId→AT→Prop},uI E st xs a q→∃ ys ts r,st.du E.dp xs=some (ys,ts)∧q ys ts r
 | [],a,q,h=>⟨[],[],a,rfl,h⟩
 | x::xs,a,q,h=>by
  unfold uI at h
  split at h
  ·obtain ⟨ys,ts,r,h1,h2⟩:=rj h
   exact ⟨_,_,r,by simp [St.du,St.fL,h1],h2⟩
  ·obtain ⟨t,es,r,h1,h2⟩:=fk h
   obtain ⟨ys,ts,r,h3,h4⟩:=rj h2
   exact ⟨_,_,r,by simp [St.du,St.fL,h1,h3],h4⟩
  ·obtain ⟨t,es,r,h1,h2⟩:=fk h
   obtain ⟨es',r,h3,h4,h5⟩:=l9 h2
   obtain ⟨ys,ts,r,h6,h7⟩:=rj h5
   subst h4
   exact ⟨_,_,r,by simp [St.du,St.fL,h1,h3,h6],h7⟩
  ·obtain ⟨ys,ts,r,h1,h2⟩:=rj h
   exact ⟨_,_,r,by simp [St.du,St.fL,h1],h2⟩
  ·rename_i h1 h2 h3 hw
   obtain ⟨h4,h5⟩:=bW h
   obtain ⟨ys,ts,r,h6,h7⟩:=rj h5
   refine ⟨_,_,r,?_,h7⟩
   have:st.fL E.dp x=some (x,[]):=by
    unfold St.fL
    split
    ·exact (h1 _ _ rfl).elim
    ·exact (h2 _ rfl).elim
    ·exact (h3 _ _ _ rfl).elim
    ·exact (hw _ _ _ rfl).elim
    ·simp [AV.pure] at h4
    ·rw [if_pos (by simpa [AV.pure] using h4)]
    ·rw [if_pos h4]
   simp [St.du,this,h6]
abbrev KW:=AV→St→AT→Prop
section
variable (G:oc)(Ω:cm)(E:Env)(st:St)(d:Option Nat)
def UL(sz:Nat)(arr:Option Nat)(x:AV)(xo:aO)(j:Nat)(a:AT)(k:KW):Prop:=
 match arr with
 | some len=>j<len∧(match x with
  | .p kk o=>k (.p kk (o+j*sz)) st a
  | .e y o=>k (.e y (o+j*sz)) st a
  | _=>False)
 | none=>match x with
  | .l _ es=>A9 sz es j a fun e r=>k (.e e 0) st r
  | .o _ es=>match xo with
   | .t m=>A9 sz es j a fun _ r=>k (.q (.s m) j sz 0) st r
   | .c _=>False
  | .r pl=>mN E st pl a fun _ es r=>A9 sz es j r fun _ r=>k (.q pl j sz 0) st r
  | .v pl lo len=>mN E st pl a fun _ es r=>j<len∧lo+len≤es.length∧(A9 sz es (lo+j) r fun _ r=>k (.q pl (lo+j) sz 0) st r)
  | _=>False
def O8(E:Env)(k:Key):Prop:=match E.ro with
 | false=>false=false
 | true=>k.dp=E.dp
theorem K7{E:Env}{k:Key}(h:O8 E k)(off:Nat):(Pl.c k off).fK E=true:=by
 unfold O8 at h
 cases hr:E.ro with
 | false=>exact sA hr _
 | true=>rw [hr] at h;simp [Pl.fK,h]
def UM(op:BinOp)(bl:Bool)(x y:AV)(a:AT)(k:KW):Prop:=
 match x,y with
 | .i ki m,.i ki' n=>if ki=ki' then
   match op with
   | .add=>CZ a fun r a=>ki.wrap (m+n)=r∧k (.i ki r) st a
   | .sub=>CZ a fun r a=>ki.wrap (m - n)=r∧k (.i ki r) st a
   | .mul=>CZ a fun r a=>ki.wrap (m*n)=r∧k (.i ki r) st a
   | .quo=>CZ a fun r a=>n≠0∧ki.wrap (m.tdiv n)=r∧k (.i ki r) st a
   | .rem=>CZ a fun r a=>n≠0∧m.tmod n=r∧k (.i ki r) st a
   | .or=>CZ a fun r a=>(if n>m then n else m)=r∧k (.i ki r) st a
   | .eql=>k (.b (m==n)) st a
   | .neq=>k (.b (m !=n)) st a
   | .lss=>k (.b (decide (m<n))) st a
   | .leq=>k (.b (decide (m≤n))) st a
   | .gtr=>k (.b (decide (n<m))) st a
   | .geq=>k (.b (decide (n≤m))) st a
   | _=>False
  else False
 | .b m,.b n=>match bl,op with
  | true,.eql=>k (.b (m==n)) st a
  | true,.neq=>k (.b (!(m==n))) st a
  | _,_=>False
 | .s m,.s n=>match op with
  | .add=>UJ a fun r a=>m.length+n.length≤4611686018427387904∧m++n=r∧k (.s r) st a
  | .eql=>k (.b (m==n)) st a
  | .neq=>k (.b (!(m==n))) st a
  | _=>False
 | _,_=>False
def UN(n:Option Nat)(x:AV)(a:AT)(k:KW):Prop:=
 match x with
 | .p kk off=>BT E st kk a fun cs a=>match pick n off cs with
  | some (.o _ _)=>k (.r (.c kk off)) st a
  | some y=>gk y.copy (k y st a)
  | none=>False
 | .e x off=>match pick n off x.cl with
  | some y=>k y st a
  | none=>False
 | .q pl i sz off=>mN E st pl a fun _ es a=>A9 sz es i a fun e a=>match pick n off e.cl with
  | some y=>k y st a
  | none=>False
 | _=>False
def UO(n:Nat)(x y:AV)(yo:aO)(a:AT)(k:KW):Prop:=
 match x with
 | .p kk off=>O8 E kk∧(BT E st kk a fun cs a=>match y with
  | .o t es=>match yo with
   | .t m=>gk (n==1&&decide (off<cs.length)) (sy E ((st.bR m .u).aL (.c kk off)) kk (cs.set off (.o t es)) a fun st' a=>k .u st' a)
   | .c _=>False
  | .v pl lo len=>pl= .c kk off∧gk (lo==0&&n==1) (mN E st pl a fun t es a=>wH a fun es' a=>len≤es.length∧es.take len=es'∧(sy E (st.aL (.c kk off)) kk (cs.set off (.o t es')) a fun st' a=>k .u st' a))
  | y=>y.deep kk.dp=true∧gk (y.copy&&y.nc==n&&y.cl.all AV.one&&decide (off+n≤cs.length)) (sy E st kk (putCells cs off y.cl) a fun st' a=>k .u st' a))
 | .q pl i sz off=>E.ro=false∧(mN E st pl a fun t es a=>G2 a fun e a=>es[i]? =some e∧gk (e.nc==sz&&y.pure&&y.nc==n&&y.cl.all AV.one&&decide (off+n≤sz)) (wH a fun es' a=>es.set i (yz e off y.cl)=es'∧(zU E st (.o t es') pl a fun st' a=>k .u st' a)))
 | _=>False
def BU(x:Option AV)(dflt:Nat)(a:AT)(k:Nat→AT→Prop):Prop:=
 match x with
 | none=>k dflt a
 | some y=>G3 y a k
def UP(t sz:Nat)(x:AV)(lo hi:Option AV)(a:AT)(k:KW):Prop:=
 match x with
 | .s l=>BU lo 0 a fun i a=>BU hi l.length a fun j a=>UJ a fun r a=>t=0∧i≤j∧j≤l.length∧(l.take j).drop i=r∧k (.s r) st a
 | .l t' es=>BU lo 0 a fun i a=>BU hi es.length a fun j a=>wH a fun r a=>t≠0∧es.all (fun e=>e.nc==sz)=true∧i≤j∧j≤es.length∧(es.take j).drop i=r∧k (.l t' r) st a
 | .r pl=>mN E st pl a fun t' es a=>BU lo 0 a fun i a=>BU hi es.length a fun j a=>UI a fun m a=>gk (t !=0&&t'==t) (i≤j∧j≤es.length∧j - i=m∧k (.v pl i m) st a)
 | _=>False
def BV(t:TypeId)(x:aO)(a:AT)(k:List AV→St→AT→Prop):Prop:=
 match x with
 | .c .n=>k [] st a
 | .c _=>False
 | .t m=>match aj st.fr m with
  | .n=>k [] st a
  | .o t' es=>gk (t'==t) (k es (st.bR m .u) a)
  | .r pl=>E.ro=false∧(mN E st pl a fun t' es a=>gk (t'==t) (zU E st .u pl a fun st' a=>k es st' a))
  | .v pl lo len=>E.ro=false∧gk (lo==0) (mN E st pl a fun t' es a=>wH a fun es' a=>len≤es.length∧t'=t∧es.take len=es'∧(zU E st .u pl a fun st' a=>k es' st' a))
  | _=>False
noncomputable def MC(m:Nat)(f:FuncId)(args:List AV)(a:AT)(k:KW):Prop:=
 match m with
 | 0=>uI E st args a fun ys ts a=>G2 a fun x a=>call G Ω ⟨0,false⟩ f ys (fun _=>none)=some (.ret x,fun _=>none)∧(match ts with
  | []=>gk x.pure (k x st a)
  | ts=>x.pure=true∧x.off ts=true∧k x st a)
 | 1=>uI E st args a fun ys ts a=>G2 a fun x a=>Ω f ys=some x∧(match ts with
  | []=>gk x.pure (k x st a)
  | ts=>x.pure=true∧x.off ts=true∧k x st a)
 | _=>False
noncomputable def MD(f:FuncId)(args:List AV)(a:AT)(k:KW):Prop:=
 match args.all AV.cj with
 | true=>MC G Ω E st 0 f args a k
 | false=>E.ro=false∧(st.bx.all fun y=>AV.bP E.dp y.2)=true∧gk (args.all AV.copy) (G2 a fun x a=>JT a fun h2 a=>UK a fun bx a=>JT a fun h3 a=>
  call G Ω ⟨E.dp+1,false⟩ f args (fun kk=>st.box E.dp kk)=some (.ret x,h2)∧bC E.dp h2 st.bx=bx∧(fun kk:Key=>if kk.dp<E.dp then h2 kk else none)=h3∧
  k x ⟨st.fr.map fun y=>(y.1,if jr y.2=true then .u else y.2),bx,h3⟩ a)
noncomputable def UQ(f:FuncId)(args:List AV)(a:AT)(k:KW):Prop:=
 (st.bx.all fun y=>AV.bP E.dp y.2)=true∧gk (args.all AV.copy) (G2 a fun x a=>JT a fun h2 a=>call G Ω ⟨E.dp+1,true⟩ f args (fun kk=>st.box E.dp kk)=some (.ret x,h2)∧gk x.pure (k x st a))
noncomputable def ckW(dd:Nat)(f:FuncId)(args:List AV)(a:AT)(k:KW):Prop:=
 gk (AV.aK args) (wH a fun cs a=>JT a fun h2 a=>call G Ω ⟨E.dp+1,false⟩ f args (fun _=>none)=some (.new cs,h2)∧(cs.all oU&&Gs E.dp st dd)=true∧k (.p ⟨E.dp,dd⟩ 0) {st with bx:=(dd,cs)::st.bx} a)
noncomputable def nK(a:AT)(o:nH)(k:KW):Prop:=
 match o with
 | .mv x=>match st.ev x with
  | .o _ _=>match x with
   | .t n=>k (.r (.s n)) st a
   | .c _=>False
  | y=>k y st a
 | .as x=>match x with
  | .c y=>gk y.pure (k y st a)
  | .t n=>match aj st.fr n with
   | .o t es=>match d with
    | some d=>k (.o t es) ((st.bR n .u).aL (.s d)) a
    | none=>False
   | .v pl lo len=>match d with
    | some d=>Fl a fun own a=>match own with
     | true=>pl= .s d∧gk (lo==0) (mN E st pl a fun t es a=>wH a fun es' a=>len≤es.length∧es.take len=es'∧k (.o t es') (st.aL (.s d)) a)
     | false=>(pl= .s d→(lo==0)=false)∧k (.v pl lo len) st a
    | none=>False
   | y=>gk (y.copy||A7 y) (k y st a)
 | .pk c x y=>match st.ev c with
  | .b z=>Fl a fun w a=>z=w∧(match w with
   | true=>gk (st.ev x).copy (k (st.ev x) st a)
   | false=>gk (st.ev y).copy (k (st.ev y) st a))
  | _=>False
 | .bx x=>match d with
  | some d=>((st.ev x).deep E.dp&&(st.fr.all (fun y=>y.2.bb ⟨E.dp,d⟩)&&st.bx.all (fun y=>AV.bM ⟨E.dp,d⟩ y.2)))=true∧
   gk ((st.ev x).copy&&(st.ev x).cl.all AV.one&&fM st.bx d) (k (.p ⟨E.dp,d⟩ 0) {st with bx:=(d,(st.ev x).cl)::st.bx} a)
  | none=>False
 | .al zs=>match d with
  | some d=>(st.fr.all (fun y=>y.2.bb ⟨E.dp,d⟩)&&st.bx.all (fun y=>AV.bM ⟨E.dp,d⟩ y.2))=true∧gk (fM st.bx d) (k (.p ⟨E.dp,d⟩ 0) {st with bx:=(d,zs)::st.bx} a)
  | none=>False
 | .ld n x=>UN E st n (st.ev x) a k
 | .st n x y=>UO E st n (st.ev x) (st.ev y) y a k
 | .fa off x=>match st.ev x with
  | .p kk o=>k (.p kk (o+off)) st a
  | .e y o=>k (.e y (o+off)) st a
  | .q pl i sz o=>mN E st pl a fun _ es a=>i<es.length∧k (.q pl i sz (o+off)) st a
  | _=>False
 | .fd n off x=>match st.ev x with
  | .a cs=>match pick n off cs with
   | some y=>k y st a
   | none=>False
  | _=>False
 | .ia sz arr x i=>G3 (st.ev i) a fun j a=>UL E st sz arr (st.ev x) x j a k
 | .bo op bl x y=>UM st op bl (st.ev x) (st.ev y) a k
 | .no x=>match st.ev x with
  | .b y=>k (.b (!y)) st a
  | _=>False
 | .bs t sz es=>match d with
  | some d=>gk ((es.map st.ev).all fun y=>y.pure&&y.cl.all AV.one&&y.nc==sz) (wH a fun vs a=>es.map st.ev=vs∧k (.o t vs) (st.aL (.s d)) a)
  | none=>False
 | .bd zs fs=>gk (fs.all fun f=>(st.ev f.2.2).copy&&(st.ev f.2.2).nc==f.2.1&&(st.ev f.2.2).cl.all AV.one&&decide (f.1+f.2.1≤zs.length))
   (k (.a (fs.foldl (fun cs f=>putCells cs f.1 (st.ev f.2.2).cl) zs)) st a)
 | .ms t _ by_ x n=>match d with
  | some d=>G3 (st.ev n) a fun n a=>wH a fun es a=>n*by_≤140737488355328∧n≤maxLen∧List.replicate n x=es∧k (.o t es) (st.aL (.s d)) a
  | none=>False
 | .sl t sz x lo hi=>UP E st t sz (st.ev x) (lo.map st.ev) (hi.map st.ev) a k
 | .ex x i=>match st.ev x with
  | .tp vs=>match vs[i]? with
   | some y=>k y st a
   | none=>False
  | _=>False
 | .mf f caps=>gk (AV.kC (caps.map st.ev)) (k (.f f (caps.map st.ev)) st a)
 | .ca m f args=>MC G Ω E st m f (args.map st.ev) a k
 | .cf m x args=>match st.ev x with
  | .f f caps=>gk (decide (f<1000000)) (MC G Ω E st m f (args.map st.ev++caps) a k)
  | _=>False
 | .c2 f args=>MD G Ω E st f (args.map st.ev) a k
 | .d2 x args=>match st.ev x with
  | .f f caps=>match decide (f<1000000) with
   | true=>MD G Ω E st f (args.map st.ev++caps) a k
   | false=>MD G Ω E st (f - 1000000) (caps++args.map st.ev) a k
  | _=>False
 | .c3 f args=>UQ G Ω E st f (args.map st.ev) a k
 | .d3 x args=>match st.ev x with
  | .f f caps=>gk (decide (f<1000000)) (UQ G Ω E st f (args.map st.ev++caps) a k)
  | _=>False
 | .ck f args=>match d with
  | some dd=>ckW G Ω E st dd f (args.map st.ev) a k
  | none=>False
 | .co _ _ _=>False
 | .cr t f args=>match d with
  | some dd=>gk (AV.aK (args.map st.ev)) (Ω f (args.map st.ev)=some (.o t [])∧k (.o t []) (st.aL (.s dd)) a)
  | none=>False
 | .ln str x=>match st.ev x with
  | .s l=>gk str (CZ a fun n a=>(l.length:Int)=n∧k (.i .i64 n) st a)
  | y=>gk (!str) (Da E st y a fun _ es a=>CZ a fun n a=>(es.length:Int)=n∧k (.i .i64 n) st a)
 | .ap t sz by_ x y=>match d with
  | some d=>Da E st (st.ev y) a fun _ ys a=>BV E st t x a fun es st' a=>wH a fun r a=>
    ys.all (fun e=>e.nc==sz)=true∧(es.length+ys.length)*by_≤140737488355328∧es.length+ys.length≤maxLen∧es++ys=r∧k (.o t r) (st'.aL (.s d)) a
  | none=>False
 | .nc x=>match st.ev x with
  | .p kk o=>k (.p kk o) st a
  | .e y o=>k (.e y o) st a
  | .f g caps=>k (.f g caps) st a
  | _=>False
 | .ch _ _ _ _ _=>False
 | .lk _ _ _ _=>False
end
section
variable {G:oc}{Ω:cm}{E:Env}{st:St}{d:Option Nat}
def Told(o:nH)(k:KW)(G:oc)(Ω:cm)(E:Env)(st:St)(d:Option Nat):Prop:=∃ x st' r,execOp (call G Ω) Ω E st d o=some (x,st')∧k x st' r
theorem Told.mk{o:nH}{k:KW}{x:AV}{st':St}{r:AT}(h:execOp (call G Ω) Ω E st d o=some (x,st'))(hk:k x st' r):Told o k G Ω E st d:=⟨x,st',r,h,hk⟩
theorem wI{sz:Nat}{es:List AV}{j:Nat}{e:AV}{f:AV→AV}(h:es[j]? =some e)(hn:e.nc=sz):elemAt sz st es[j]? f=some (f e,st):=by
 rw [h];simp only [elemAt,Option.bind_some,hn,if_true]
theorem UR{op:BinOp}{bl:Bool}{x y:aO}{a:AT}{k:KW}(h:UM st op bl (st.ev x) (st.ev y) a k):Told (.bo op bl x y) k G Ω E st d:=by
 unfold UM at h
 split at h
 ·rename_i ki m ki' n hx hy
  split at h
  ·rename_i hki
   subst hki
   split at h
   ·obtain ⟨r,a',h1,h2⟩:=tH h
    exact .mk (by simp only [execOp,hx,hy,ob,if_true,rh,h1,Option.bind_some]) h2
   ·obtain ⟨r,a',h1,h2⟩:=tH h
    exact .mk (by simp only [execOp,hx,hy,ob,if_true,rh,h1,Option.bind_some]) h2
   ·obtain ⟨r,a',h1,h2⟩:=tH h
    exact .mk (by simp only [execOp,hx,hy,ob,if_true,rh,h1,Option.bind_some]) h2
   ·obtain ⟨r,a',h0,h1,h2⟩:=tH h
    exact .mk (by simp only [execOp,hx,hy,ob,if_true,rh,if_neg h0,h1,Option.bind_some]) h2
   ·obtain ⟨r,a',h0,h1,h2⟩:=tH h
    exact .mk (by simp only [execOp,hx,hy,ob,if_true,rh,if_neg h0,h1,Option.bind_some]) h2
   ·obtain ⟨r,a',h1,h2⟩:=tH h
    exact .mk (by simp only [execOp,hx,hy,ob,if_true,rh,h1,Option.bind_some]) h2
   ·exact .mk (by simp only [execOp,hx,hy,ob,if_true,rh,Option.bind_some]) h
   ·exact .mk (by simp only [execOp,hx,hy,ob,if_true,rh,Option.bind_some]) h
   ·exact .mk (by simp only [execOp,hx,hy,ob,if_true,rh,Option.bind_some]) h
   ·exact .mk (by simp only [execOp,hx,hy,ob,if_true,rh,Option.bind_some]) h
   ·exact .mk (by simp only [execOp,hx,hy,ob,if_true,rh,Option.bind_some]) h
   ·exact .mk (by simp only [execOp,hx,hy,ob,if_true,rh,Option.bind_some]) h
   ·exact h.elim
  ·exact h.elim
 ·rename_i m n hx hy
  split at h
  ·exact .mk (by simp only [execOp,hx,hy,ob,if_true,Option.bind_some]) h
  ·exact .mk (by simp only [execOp,hx,hy,ob,if_true,Option.bind_some]) h
  ·exact h.elim
 ·rename_i m n hx hy
  split at h
  ·obtain ⟨r,a',h0,h1,h2⟩:=MB h
   exact .mk (by simp only [execOp,hx,hy,ob,if_pos h0,h1,Option.bind_some]) h2
  ·exact .mk (by simp only [execOp,hx,hy,ob,Option.bind_some]) h
  ·exact .mk (by simp only [execOp,hx,hy,ob,Option.bind_some]) h
  ·exact h.elim
 ·exact h.elim
theorem US{n:Option Nat}{x:aO}{a:AT}{k:KW}(h:UN E st n (st.ev x) a k):Told (.ld n x) k G Ω E st d:=by
 unfold UN at h
 split at h
 ·rename_i kk off hx
  obtain ⟨cs,r,h1,h2⟩:=u9 h
  split at h2
  ·rename_i t es hp
   exact .mk (by simp only [execOp,hx,h1,hp,Option.bind_some]) h2
  ·rename_i y hy hp
   obtain ⟨h3,h4⟩:=bW h2
   refine .mk (x:=y) (st':=st) ?_ h4
   simp only [execOp,hx,h1,hp,Option.bind_some,if_pos h3]
  ·exact h2.elim
 ·rename_i y off hx
  split at h
  ·rename_i z hp
   exact .mk (by simp only [execOp,hx,hp,Option.bind_some]) h
  ·exact h.elim
 ·rename_i pl i sz off hx
  obtain ⟨t,es,r,h1,h2⟩:=fk h
  obtain ⟨e,r',h3,h4,h5⟩:=vo h2
  split at h5
  ·rename_i z hp
   exact .mk (by simp only [execOp,hx,h1,h3,hp,h4,if_true,Option.bind_some]) h5
  ·exact h5.elim
 ·exact h.elim
theorem UT{n:Nat}{x y:aO}{a:AT}{k:KW}(h:UO E st n (st.ev x) (st.ev y) y a k):Told (.st n x y) k G Ω E st d:=by
 unfold UO at h
 split at h
 ·rename_i kk off hx
  obtain ⟨hro,h⟩:=h
  obtain ⟨cs,r,h1,h2⟩:=u9 h
  split at h2
  ·rename_i t es hy
   split at h2
   ·rename_i m
    obtain ⟨h3,h4⟩:=bW h2
    obtain ⟨r',h5⟩:=oW h4
    exact .mk (by simp only [execOp,hx,K7 hro _,if_true,h1,hy,Option.bind_some,if_pos h3]) h5
   ·exact h2.elim
  ·rename_i pl lo len hy
   obtain ⟨rfl,h2⟩:=h2
   obtain ⟨h3,h4⟩:=bW h2
   obtain ⟨t,es,r1,h5,h6⟩:=fk h4
   obtain ⟨es',r2,h7,rfl,h9⟩:=l9 h6
   obtain ⟨r',h10⟩:=oW h9
   simp only [Bool.and_eq_true] at h3
   exact .mk (by simp only [execOp,hx,K7 hro _,if_true,h1,hy,Option.bind_some,h3.1,h3.2,Bool.and_self,decide_true,Bool.true_and,h5,if_pos h7,true_and,and_self]) h10
  ·rename_i y' hy1 hy2
   obtain ⟨h0,h2⟩:=h2
   obtain ⟨h3,h4⟩:=bW h2
   obtain ⟨r',h5⟩:=oW h4
   have h6:((st.ev y).copy&&(st.ev y).nc==n&&(st.ev y).cl.all AV.one&&(st.ev y).deep kk.dp&&decide (off+n≤cs.length))=true:=by
    simp only [Bool.and_eq_true] at h3 ⊢
    exact ⟨⟨h3.1,h0⟩,h3.2⟩
   refine .mk (x:=.u) (st':=st.aC E.dp kk (putCells cs off (st.ev y).cl)) ?_ h5
   simp only [execOp,hx,K7 hro _,if_true,h1,Option.bind_some,if_pos h6]
 ·rename_i pl i sz off hx
  obtain ⟨hro,h⟩:=h
  obtain ⟨t,es,r,h1,h2⟩:=fk h
  obtain ⟨e,r1,h3,h4⟩:=xC h2
  obtain ⟨h5,h6⟩:=bW h4
  obtain ⟨es',r2,rfl,h8⟩:=l9 h6
  obtain ⟨st',r3,h9,h10⟩:=zV h8
  exact .mk (by simp only [execOp,hx,sA hro,if_true,h1,h3,Option.bind_some,if_pos h5,h9]) h10
 ·exact h.elim
theorem va{x:Option aO}{dflt:Nat}{a:AT}{k:Nat→AT→Prop}(h:BU (x.map st.ev) dflt a k):∃ j r,mM st x dflt=some j∧k j r:=by
 cases x with
 | none=>exact ⟨dflt,a,rfl,h⟩
 | some y=>
  obtain ⟨j,r,h1,h2⟩:=Ea (x:=st.ev y) h
  exact ⟨j,r,h1,h2⟩
theorem UU{t sz:Nat}{x:aO}{lo hi:Option aO}{a:AT}{k:KW}(h:UP E st t sz (st.ev x) (lo.map st.ev) (hi.map st.ev) a k):Told (.sl t sz x lo hi) k G Ω E st d:=by
 unfold UP at h
 split at h
 ·rename_i l hx
  obtain ⟨i,r1,h1,h2⟩:=va h
  obtain ⟨j,r2,h3,h4⟩:=va h2
  obtain ⟨z,r3,rfl,h5,h6,rfl,h8⟩:=MB h4
  exact .mk (by simp [execOp,hx,h1,h3,h5,h6]) h8
 ·rename_i t' es hx
  obtain ⟨i,r1,h1,h2⟩:=va h
  obtain ⟨j,r2,h3,h4⟩:=va h2
  obtain ⟨z,r3,h0,hall,h5,h6,rfl,h8⟩:=l9 h4
  exact .mk (by simp only [execOp,hx,h1,h3,Option.bind_some,hall,bne_iff_ne,ne_eq,h0,not_false_eq_true,h5,h6,decide_true,Bool.and_true,Bool.and_self,if_true]) h8
 ·rename_i pl hx
  obtain ⟨t',es,r0,hr,h⟩:=fk h
  obtain ⟨i,r1,h1,h2⟩:=va h
  obtain ⟨j,r2,h3,h4⟩:=va h2
  obtain ⟨m,r3,h5⟩:=MA h4
  obtain ⟨h6,h7,h8,rfl,h10⟩:=bW h5
  exact .mk (by simp only [execOp,hx,hr,h1,h3,Option.bind_some,h6,h7,h8,decide_true,Bool.and_self,if_true]) h10
 ·exact h.elim
theorem Ja{t:TypeId}{x:aO}{a:AT}{k:List AV→St→AT→Prop}(h:BV E st t x a k):∃ es st' r,consume E st t x=some (es,st')∧k es st' r:=by
 unfold BV at h
 split at h
 ·exact ⟨_,_,a,rfl,h⟩
 ·exact h.elim
 ·rename_i m
  split at h
  ·rename_i hx
   exact ⟨_,_,a,by simp only [consume,hx],h⟩
  ·rename_i t' es hx
   obtain ⟨h1,h2⟩:=bW h
   exact ⟨_,_,a,by simp only [consume,hx,if_pos (beq_iff_eq.1 h1)],h2⟩
  ·rename_i pl hx
   obtain ⟨hro,h⟩:=h
   obtain ⟨t',es,r,h1,h2⟩:=fk h
   obtain ⟨h3,h4⟩:=bW h2
   obtain ⟨st',r',h5,h6⟩:=zV h4
   exact ⟨_,_,r',by simp only [consume,hx,sA hro,if_true,h1,Option.bind_some,if_pos (beq_iff_eq.1 h3),h5],h6⟩
  ·rename_i pl lo len hx
   obtain ⟨hro,h⟩:=h
   obtain ⟨h0,h⟩:=bW h
   obtain ⟨t',es,r,h1,h2⟩:=fk h
   obtain ⟨es',r2,h3,h4,rfl,h6⟩:=l9 h2
   obtain ⟨st',r',h7,h8⟩:=zV h6
   exact ⟨_,_,r',by simp only [consume,hx,sA hro,h0,Bool.and_self,if_true,h1,Option.bind_some,if_pos (And.intro h3 h4),h7],h8⟩
  ·exact h.elim
theorem UW{sz:Nat}{arr:Option Nat}{x i:aO}{j:Nat}{a:AT}{k:KW}(hj:qO (st.ev i)=some j)(h:UL E st sz arr (st.ev x) x j a k):Told (.ia sz arr x i) k G Ω E st d:=by
 unfold UL at h
 split at h
 ·rename_i len
  obtain ⟨h1,h⟩:=h
  split at h
  ·rename_i kk o hx
   exact .mk (by simp only [execOp,hj,Option.bind_some,if_pos h1,hx]) h
  ·rename_i y o hx
   exact .mk (by simp only [execOp,hj,Option.bind_some,if_pos h1,hx]) h
  ·exact h.elim
 ·split at h
  ·rename_i t es hx
   obtain ⟨e,r,h1,h2,h3⟩:=vo h
   exact .mk (by simp only [execOp,hj,Option.bind_some,hx];exact wI h1 h2) h3
  ·rename_i t es hx
   split at h
   ·rename_i m
    obtain ⟨e,r,h1,h2,h3⟩:=vo h
    exact .mk (by simp only [execOp,hj,Option.bind_some,hx];exact wI h1 h2) h3
   ·exact h.elim
  ·rename_i pl hx
   obtain ⟨t,es,r0,h0,h⟩:=fk h
   obtain ⟨e,r,h1,h2,h3⟩:=vo h
   exact .mk (by simp only [execOp,hj,Option.bind_some,hx,h0];exact wI h1 h2) h3
  ·rename_i pl lo len hx
   obtain ⟨t,es,r0,h0,h4,h5,h⟩:=fk h
   obtain ⟨e,r,h1,h2,h3⟩:=vo h
   exact .mk (by simp only [execOp,hj,Option.bind_some,hx,if_pos h4,h0,if_pos h5];exact wI h1 h2) h3
  ·exact h.elim
theorem G8{m:Nat}{f:FuncId}{args:List AV}{a:AT}{k:KW}(h:MC G Ω E st m f args a k):∃ x r,bk (call G Ω) Ω E st m f args=some (x,st)∧k x st r:=by
 unfold MC at h
 split at h
 ·obtain ⟨ys,ts,r,h1,h2⟩:=rj h
  obtain ⟨x,r1,h3,h4⟩:=xC h2
  have h5:∃ b,(x.pure&&(ts.isEmpty||x.off ts))=true∧b=r1∧k x st b:=by
   split at h4
   ·obtain ⟨h5,h6⟩:=bW h4
    exact ⟨r1,by simp [h5],rfl,h6⟩
   ·exact ⟨r1,by simp [h4.1,h4.2.1],rfl,h4.2.2⟩
  obtain ⟨b,h6,rfl,h7⟩:=h5
  exact ⟨x,b,by simp only [bk,h1,Option.bind_some,h3,h6,if_true],h7⟩
 ·obtain ⟨ys,ts,r,h1,h2⟩:=rj h
  obtain ⟨x,r1,h3,h4⟩:=xC h2
  have h5:∃ b,(x.pure&&(ts.isEmpty||x.off ts))=true∧b=r1∧k x st b:=by
   split at h4
   ·obtain ⟨h5,h6⟩:=bW h4
    exact ⟨r1,by simp [h5],rfl,h6⟩
   ·exact ⟨r1,by simp [h4.1,h4.2.1],rfl,h4.2.2⟩
  obtain ⟨b,h6,rfl,h7⟩:=h5
  exact ⟨x,b,by simp only [bk,h1,Option.bind_some,h3,h6,if_true],h7⟩
 ·exact h.elim
theorem G9{f:FuncId}{args:List AV}{a:AT}{k:KW}(h:MD G Ω E st f args a k):∃ x st' r,bj (call G Ω) Ω E st f args=some (x,st')∧k x st' r:=by
 unfold MD at h
 split at h
 ·rename_i hc
  obtain ⟨x,r,h1,h2⟩:=G8 h
  exact ⟨x,st,r,by rw [bj,if_pos hc];exact h1,h2⟩
 ·rename_i hc
  obtain ⟨h1,h2,h⟩:=h
  obtain ⟨h3,h⟩:=bW h
  obtain ⟨x,r1,h⟩:=xC h
  obtain ⟨hp2,r2,h⟩:=zT h
  obtain ⟨bx,r3,h⟩:=Ra h
  obtain ⟨hp3,r4,h4,rfl,rfl,h5⟩:=zT h
  refine ⟨x,st.back E.dp hp2,r4,?_,h5⟩
  rw [bj,if_neg (by rw [hc];simp)]
  simp only [h1,h2,h3,Bool.not_false,Bool.and_self,if_true,h4,Option.bind_some]
theorem ME{f:FuncId}{args:List AV}{a:AT}{k:KW}(h:UQ G Ω E st f args a k):∃ x r,ie (call G Ω) E st f args=some (x,st)∧k x st r:=by
 obtain ⟨h1,h⟩:=h
 obtain ⟨h2,h⟩:=bW h
 obtain ⟨x,r1,h⟩:=xC h
 obtain ⟨hp2,r2,h3,h⟩:=zT h
 obtain ⟨h4,h5⟩:=bW h
 exact ⟨x,r2,by simp only [ie,h1,h2,Bool.and_self,if_true,h3,Option.bind_some,h4],h5⟩
theorem Ha{o:nH}{a:AT}{k:KW}(h:nK G Ω E st d a o k):Told o k G Ω E st d:=by
 cases o with
 | mv x=>
  simp only [nK] at h
  split at h
  ·rename_i t es hx
   split at h
   ·exact .mk (by simp only [execOp,hx]) h
   ·exact h.elim
  ·rename_i hx
   refine .mk (x:=st.ev x) (st':=st) ?_ h
   simp only [execOp]
 | as x=>
  cases x with
  | c y=>
   obtain ⟨h1,h2⟩:=bW h
   exact .mk (by simp only [execOp,h1,if_true]) h2
  | t n=>
   simp only [nK] at h
   split at h
   ·rename_i t es hx
    split at h
    ·exact .mk (by simp only [execOp,hx,Option.bind_some]) h
    ·exact h.elim
   ·rename_i pl lo len hx
    split at h
    ·rename_i dd
     obtain ⟨own,r,h⟩:=vn h
     cases own with
     | true=>
      obtain ⟨rfl,h⟩:=h
      obtain ⟨h1,h⟩:=bW h
      obtain ⟨t,es,r1,h2,h⟩:=fk h
      obtain ⟨es',r2,h3,rfl,h5⟩:=l9 h
      exact .mk (by simp only [execOp,hx,Option.bind_some,h1,decide_true,Bool.and_self,and_self,if_true,h2,if_pos h3]) h5
     | false=>
      obtain ⟨h1,h2⟩:=h
      refine .mk (x:=.v pl lo len) (st':=st) ?_ h2
      simp only [execOp,hx,Option.bind_some]
      rw [if_neg]
      simp only [Bool.and_eq_true,decide_eq_true_eq]
      rintro ⟨h3,h4⟩
      rw [h1 h3] at h4
      cases h4
    ·exact h.elim
   ·rename_i hx1 hx2
    obtain ⟨h1,h2⟩:=bW h
    refine .mk (x:=aj st.fr n) (st':=st) ?_ h2
    simp only [execOp,if_pos h1]
 | pk c x y=>
  simp only [nK] at h
  split at h
  ·rename_i z hc
   obtain ⟨w,r,rfl,h⟩:=vn h
   cases z with
   | true=>
    obtain ⟨h1,h2⟩:=bW h
    exact .mk (by simp only [execOp,hc,pK,Option.bind_some,if_true,h1]) h2
   | false=>
    obtain ⟨h1,h2⟩:=bW h
    exact .mk (by simp only [execOp,hc,pK,Option.bind_some,Bool.false_eq_true,if_false,h1,if_true]) h2
  ·exact h.elim
 | bx x=>
  simp only [nK] at h
  split at h
  ·rename_i dd
   obtain ⟨h1,h⟩:=h
   obtain ⟨h2,h3⟩:=bW h
   simp only [Bool.and_eq_true] at h1 h2
   exact .mk (by simp only [execOp,Option.bind_some,h1.1,h1.2.1,h1.2.2,h2.1.1,h2.1.2,h2.2,Bool.and_self,if_true]) h3
  ·exact h.elim
 | al zs=>
  simp only [nK] at h
  split at h
  ·rename_i dd
   obtain ⟨h1,h⟩:=h
   obtain ⟨h2,h3⟩:=bW h
   simp only [Bool.and_eq_true] at h1
   exact .mk (by simp only [execOp,Option.bind_some,h1.1,h1.2,h2,Bool.and_self,if_true]) h3
  ·exact h.elim
 | ld n x=>exact US h
 | st n x y=>exact UT h
 | fa off x=>
  simp only [nK] at h
  split at h
  ·rename_i hx;exact .mk (by simp only [execOp,hx]) h
  ·rename_i hx;exact .mk (by simp only [execOp,hx]) h
  ·rename_i hx
   obtain ⟨t,es,r,h1,h2,h3⟩:=fk h
   exact .mk (by simp only [execOp,hx,h1,Option.bind_some,if_pos h2]) h3
  ·exact h.elim
 | fd n off x=>
  simp only [nK] at h
  split at h
  ·rename_i cs hx
   split at h
   ·rename_i y hy
    exact .mk (by simp only [execOp,hx,hy,Option.bind_some]) h
   ·exact h.elim
  ·exact h.elim
 | ia sz arr x i=>
  obtain ⟨j,r,h1,h2⟩:=Ea (x:=st.ev i) h
  exact UW h1 h2
 | bo op bl x y=>exact UR h
 | no x=>
  simp only [nK] at h
  split at h
  ·rename_i y hx
   exact .mk (by simp only [execOp,hx,pK,Option.bind_some]) h
  ·exact h.elim
 | bs t sz es=>
  simp only [nK] at h
  split at h
  ·obtain ⟨h1,h2⟩:=bW h
   obtain ⟨vs,r,rfl,h3⟩:=l9 h2
   exact .mk (by simp only [execOp,Option.bind_some,h1,if_true]) h3
  ·exact h.elim
 | bd zs fs=>
  obtain ⟨h1,h2⟩:=bW h
  exact .mk (by simp only [execOp,h1,if_true]) h2
 | ms t sz by_ x n=>
  simp only [nK] at h
  split at h
  ·obtain ⟨m,r,h1,h2⟩:=Ea h
   obtain ⟨es,r2,h3,h4,rfl,h6⟩:=l9 h2
   exact .mk (by simp only [execOp,Option.bind_some,h1,h3,h4,decide_true,Bool.and_self,if_true]) h6
  ·exact h.elim
 | sl t sz x lo hi=>exact UU h
 | ex x i=>
  simp only [nK] at h
  split at h
  ·rename_i vs hx
   split at h
   ·rename_i y hy
    exact .mk (by simp only [execOp,hx,hy,Option.bind_some]) h
   ·exact h.elim
  ·exact h.elim
 | mf f caps=>
  obtain ⟨h1,h2⟩:=bW h
  exact .mk (by simp only [execOp,h1,if_true]) h2
 | ca m f args=>
  obtain ⟨x,r,h1,h2⟩:=G8 h
  exact .mk h1 h2
 | cf m x args=>
  simp only [nK] at h
  split at h
  ·rename_i f caps hx
   obtain ⟨hg,h⟩:=bW h
   obtain ⟨x,r,h1,h2⟩:=G8 h
   exact .mk (by simp only [execOp,hx,if_pos (of_decide_eq_true hg)];exact h1) h2
  ·exact h.elim
 | c2 f args=>
  obtain ⟨x,st',r,h1,h2⟩:=G9 h
  exact .mk h1 h2
 | d2 x args=>
  simp only [nK] at h
  split at h
  ·rename_i f caps hx
   split at h
   ·rename_i hg
    obtain ⟨x,st',r,h1,h2⟩:=G9 h
    exact .mk (by simp only [execOp,hx,if_pos (of_decide_eq_true hg)];exact h1) h2
   ·rename_i hg
    obtain ⟨x,st',r,h1,h2⟩:=G9 h
    exact .mk (by simp only [execOp,hx,if_neg (of_decide_eq_false hg)];exact h1) h2
  ·exact h.elim
 | c3 f args=>
  obtain ⟨x,r,h1,h2⟩:=ME h
  exact .mk h1 h2
 | d3 x args=>
  simp only [nK] at h
  split at h
  ·rename_i f caps hx
   obtain ⟨hg,h⟩:=bW h
   obtain ⟨x,r,h1,h2⟩:=ME h
   exact .mk (by simp only [execOp,hx,if_pos (of_decide_eq_true hg)];exact h1) h2
  ·exact h.elim
 | ck f args=>
  simp only [nK] at h
  split at h
  ·rename_i dd
   obtain ⟨h1,h⟩:=bW h
   obtain ⟨cs,r1,h⟩:=l9 h
   obtain ⟨hp2,r2,h4,h5,h6⟩:=zT h
   exact .mk (by simp only [execOp,Option.bind_some,u7,h1,if_true,h4,h5]) h6
  ·exact h.elim
 | co nd f args=>exact (by simp only [nK] at h)
 | cr t f args=>
  simp only [nK] at h
  split at h
  ·rename_i dd
   obtain ⟨h1,h2,h3⟩:=bW h
   exact .mk (by simp only [execOp,Option.bind_some,D7,h1,if_true,h2]) h3
  ·exact h.elim
 | ln str x=>
  simp only [nK] at h
  split at h
  ·rename_i l hx
   obtain ⟨h1,h2⟩:=bW h
   obtain ⟨n,r,h3,h4⟩:=tH h2
   exact .mk (by simp only [execOp,hx,h1,if_true,h3]) h4
  ·rename_i hx
   obtain ⟨h1,h2⟩:=bW h
   obtain ⟨t,es,r,h3,h4⟩:=Fm h2
   obtain ⟨n,r,h5,h6⟩:=tH h4
   have hs:str=false:=by simpa using h1
   refine .mk (x:=.i .i64 n) (st':=st) ?_ h6
   have hsp:∀ kk o m s,st.ev x≠.sp kk o m s:=fun kk o m s e=>by rw [e] at h3;cases h3
   simp only [execOp,hs,Bool.false_eq_true,if_false]
   simp only [h3,Option.bind_some,h5]
 | ap t sz by_ x y=>
  simp only [nK] at h
  split at h
  ·obtain ⟨t',ys,r,h1,h2⟩:=Fm h
   obtain ⟨es,st',r2,h3,h4⟩:=Ja h2
   obtain ⟨z,r3,h5,h6,h7,rfl,h9⟩:=l9 h4
   exact .mk (by simp only [execOp,Option.bind_some,h1,h3,h5,h6,h7,decide_true,Bool.and_self,if_true]) h9
  ·exact h.elim
 | nc x=>
  simp only [nK] at h
  split at h
  ·rename_i hx;exact .mk (by simp only [execOp,hx]) h
  ·rename_i hx;exact .mk (by simp only [execOp,hx]) h
  ·rename_i hx;exact .mk (by simp only [execOp,hx]) h
  ·exact h.elim
 | ch f args sl dl ow=>exact (show False from h).elim
 | lk n x y lv=>exact (show False from h).elim
end
section
variable (G:oc)(Ω:cm)(E:Env)
abbrev KS:=St→AT→Prop
noncomputable def gW(st:St)(g:dL)(a:AT)(q:KS):Prop:=
 match g.g with
 | none=>nK G Ω E st g.d a g.o fun x st' a=>q (put st' g.d (ea g.fz x)) a
 | some (j,want)=>match aj st.fr j with
  | .b x=>Fl a fun y a=>(x==want)=y∧(match y with
   | true=>nK G Ω E st g.d a g.o fun x st' a=>q (put st' g.d (ea g.fz x)) a
   | false=>q (put st g.d .sk) a)
  | .sk=>q (put st g.d .sk) a
  | _=>False
def BW(dp:Nat)(p:bw)(v:St)(q:Prop):Prop:=
 match p.p.o with
 | .st _ x y=>(match tE (v.ev y) with
  | false=>q
  | true=>match v.ev x with
   | .p k _=>k.dp=dp∧gk (p.vb==[k.d]&&(match y with
    | .t m=>p.cs==[m]
    | .c _=>false)) q
   | _=>False)
 | .ap _ _ _ x _=>gk (zL (v.ev x)==(p.cs.length==2)) q
 | _=>q
theorem Jb{dp:Nat}{p:bw}{v:St}{q:Prop}(h:BW dp p v q):cY dp p v=true∧q:=by
 unfold BW at h
 unfold cY
 split at h
 ·rename_i n x y ho
  simp only [ho]
  split at h
  ·rename_i hy
   exact ⟨by rw [hy];rfl,h⟩
  ·rename_i hy
   split at h
   ·rename_i k off hx
    obtain ⟨h1,h2⟩:=h
    obtain ⟨h3,h4⟩:=bW h2
    refine ⟨?_,h4⟩
    rw [hy,hx]
    simp only [Bool.and_eq_true] at h3
    simp only [h1,decide_true,h3.1,Bool.not_true,Bool.false_or,Bool.true_and]
    exact h3.2
   ·exact h.elim
 ·rename_i ho
  simp only [ho]
  exact bW h
 ·rename_i hne hna
  refine ⟨?_,h⟩
  split
  ·rename_i n x y ho
   exact (hne _ _ _ ho).elim
  ·rename_i ho
   exact (hna _ _ _ _ _ ho).elim
  ·rfl
noncomputable def K8(st:St)(p:bw)(a:AT)(q:KS):Prop:=
 gk (iR (view p st) p.p.o) (BW E.dp p (view p st) (nK G Ω E (view p st) p.p.d a p.p.o fun x v' a=>(k7 E.dp p.nk x&&okB E.dp p.nb x)=true∧q ((effect p (x,v')).app st) a))
noncomputable def dW(st:St)(p:bw)(a:AT)(q:KS):Prop:=
 match p.lt with
 | true=>match p.p.g with
  | none=>K8 G Ω E st p a q
  | some (j,want)=>match aj st.fr j with
   | .b x=>Fl a fun y a=>(x==want)=y∧(match y with
    | true=>K8 G Ω E st p a q
    | false=>q ((⟨iB p.p.d .sk,[],[],none⟩:aX).app st) a)
   | .sk=>q ((⟨iB p.p.d .sk,[],[],none⟩:aX).app st) a
   | _=>False
 | false=>gW G Ω E st p.p a q
noncomputable def nv(kf kb:List Nat)(gs:List dL)(st:St):Option St:=(kQ (call G Ω) Ω E st gs).map fun s=>s.aH kf kb
noncomputable def yD(kf kb:List Nat)(gs:List bw)(st:St):Option St:=(kD (call G Ω) Ω E st gs).map fun s=>s.aH kf kb
def UX(d:Option Nat)(m n:Nat)(d':Option Nat):Bool:=(match d,d' with
 | some x,some y=>x==y
 | none,none=>true
 | _,_=>false)&&m==n
noncomputable def zW(kf kb:List Nat):St→List dL→AT→KS→Prop
 | st,[],a,q=>q (st.aH kf kb) a
 | st,g::gs,a,q=>match a with
  | .jb d n b=>(match UX g.d gs.length n d with
   | true=>gR b fun b=>match b with
    | .co (.jn X) r=>nv G Ω E kf kb (g::gs) st=some X∧q X r
    | _=>False
   | false=>gW G Ω E st g (.jb d n b) fun st a=>zW kf kb st gs a q)
  | a=>gW G Ω E st g a fun st a=>zW kf kb st gs a q
noncomputable def zX(kf kb:List Nat):St→List bw→AT→KS→Prop
 | st,[],a,q=>q (st.aH kf kb) a
 | st,p::ps,a,q=>match a with
  | .jb d n b=>(match UX p.p.d ps.length n d with
   | true=>gR b fun b=>match b with
    | .co (.jn X) r=>yD G Ω E kf kb (p::ps) st=some X∧q X r
    | _=>False
   | false=>dW G Ω E st p (.jb d n b) fun st a=>zX kf kb st ps a q)
  | a=>dW G Ω E st p a fun st a=>zX kf kb st ps a q
def uJ(st:St)(p:uy)(a:AT)(q:KS):Prop:=
 match p with
 | .own d t=>match aj st.fr d with
  | .n=>q ((st.aL (.s d)).bR d (.o t [])) a
  | .o _ _=>q st a
  | _=>False
 | .fz d=>match aj st.fr d with
  | .o t es=>q (st.bR d (.l t es)) a
  | _=>False
 | .ownC d off t=>match aj st.fr d with
  | .p k o=>E.ro=false∧(BT E st k a fun cs a=>match cs[o+off]? with
   | some .n=>sy E (st.aL (.c k (o+off))) k (cs.set (o+off) (.o t [])) a q
   | some (.o _ _)=>q st a
   | _=>False)
  | _=>False
 | .fzC d off=>match aj st.fr d with
  | .p k o=>E.ro=false∧(BT E st k a fun cs a=>match cs[o+off]? with
   | some (.o t es)=>sy E st k (cs.set (o+off) (.l t es)) a q
   | _=>False)
  | _=>False
 | .fzB d agg=>match aj st.fr d with
  | .p k 0=>k.dp=E.dp∧(match aq st.bx k.d with
   | some cs=>gk (AV.aK cs) (match agg with
    | true=>q {(st.bR d (.e (.a cs) 0)) with bx:=st.bx.filter fun y=>y.1 !=k.d} a
    | false=>match cs with
     | [c]=>q {(st.bR d (.e c 0)) with bx:=st.bx.filter fun y=>y.1 !=k.d} a
     | _=>False)
   | none=>False)
  | _=>False
 | .iq d off nd sz=>match eH E st (.iq d off nd sz) with
  | some st'=>q st' a
  | none=>False
 | .unp d off=>match eH E st (.unp d off) with
  | some st'=>q st' a
  | none=>False
def K9:St→List uy→AT→KS→Prop
 | st,[],a,q=>q st a
 | st,p::ps,a,q=>uJ E st p a fun st a=>K9 st ps a q
abbrev KX:=aI→St→AT→Prop
noncomputable def cW:AC→St→AT→KX→Prop
 | .sk,st,a,q=>q .nrm st a
 | .rg pre ops kf kb,st,a,q=>K9 E st pre a fun st a=>zW G Ω E kf kb st ops a fun st a=>q .nrm st a
 | .dg pre mks ops kf kb,st,a,q=>K9 E st pre a fun st a=>(mks.all (rL E.dp st)&&ops.all (iS E.dp st))=true∧(zX G Ω E kf kb st ops a fun st a=>q .nrm st a)
 | .sq x y,st,a,q=>cW x st a fun e st a=>match e with
  | .nrm=>cW y st a q
  | e=>q e st a
 | .ite c x y,st,a,q=>match st.ev c with
  | .b z=>Fl a fun w a=>z=w∧(match w with
   | true=>cW x st a q
   | false=>cW y st a q)
  | _=>False
 | .bl id x,st,a,q=>cW x st a fun e st a=>match e with
  | .ex id'=>if id'=id then q .nrm st a else q (.ex id') st a
  | e=>q e st a
 | .lp (.kp kf kb x),st,a,q=>K6 a fun e st' a=>run G Ω E (.lp (.kp kf kb x)) (st.aH kf kb)=some (e,st')∧q e st' a
 | .lp x,st,a,q=>K6 a fun e st' a=>run G Ω E (.lp x) st=some (e,st')∧q e st' a
 | .ex id,st,a,q=>q (.ex id) st a
 | .rt,st,a,q=>q .ret st a
 | .bad,_,_,_=>False
 | .ru g x y b,st,a,q=>K6 a fun e st' a=>run G Ω E (.ru g x y b) st=some (e,st')∧q e st' a
 | .kp kf kb x,st,a,q=>match a with
  | .fb b=>gR b fun b=>match b with
   | .co (.fr e st') r=>run G Ω E x (st.aH kf kb)=some (e,st')∧q e st' r
   | _=>False
  | _=>cW x (st.aH kf kb) a q
def Db(st:St)(x:AV)(a:AT)(q:AV→AT→Prop):Prop:=
 match x with
 | .o t es=>q (.l t es) a
 | .r (.s d)=>mN E st (.s d) a fun t es a=>q (.l t es) a
 | .r (.c k off)=>k.dp=E.dp∧(mN E st (.c k off) a fun t es a=>q (.l t es) a)
 | .v (.s d) lo len=>mN E st (.s d) a fun t es a=>wH a fun es' a=>lo+len≤es.length∧(es.drop lo).take len=es'∧q (.l t es') a
 | .v (.c _ _) _ _=>False
 | .q _ _ _ _=>False
 | .w _ _ _=>False
 | .ag _ _=>False
 | .bp _ _ _=>False
 | x=>q x a
def La(st:St):List AV→AT→(List AV→AT→Prop)→Prop
 | [],a,q=>q [] a
 | x::xs,a,q=>Db E st x a fun y a=>La st xs a fun ys a=>q (y::ys) a
def Lb(st:St)(z:RV)(a:AT)(q:AV→AT→Prop):Prop:=
 match z with
 | .t n=>Db E st (aj st.fr n) a q
 | .r _=>False
 | .c n sz=>match aj st.fr n with
  | .p k off=>k.dp=E.dp∧(match aq st.bx k.d with
   | some cs=>match pick sz off cs with
    | some (.a ds)=>La E st ds a fun ds a=>q (.a ds) a
    | some y=>Db E st y a q
    | none=>False
   | none=>False)
  | _=>False
def O9(st:St):List RV→AT→(List AV→Prop)→Prop
 | [],_,q=>q []
 | z::zs,a,q=>Lb E st z a fun y a=>O9 st zs a fun ys=>q (y::ys)
noncomputable def Hb(fn:aZ)(ys:List AV)(hp:HP)(a:AT)(q:List AV→HP→Prop):Prop:=
 cW G Ω E fn.code ⟨fO 0 ys,[],hp⟩ a fun e st _=>match e with
  | .ex _=>False
  | _=>match fn.res with
   | [.t n]=>match aj st.fr n with
    | .p k 0=>k.dp=E.dp∧(match aq st.bx k.d with
     | some cs=>(cs.all oU)=true∧q cs st.hp
     | none=>False)
    | _=>False
   | _=>False
noncomputable def Lc(fn:aZ)(ys:List AV)(hp:HP)(a:AT)(q:AV→HP→Prop):Prop:=
 cW G Ω E fn.code ⟨fO 0 ys,[],hp⟩ a fun e st a=>match e with
  | .ex _=>False
  | _=>O9 E st fn.res a fun xs=>gk (AV.aK xs) (q (zt xs) st.hp)
end
section
variable {G:oc}{Ω:cm}{E:Env}
theorem QG{st:St}{g:dL}{a:AT}{q:KS}(h:gW G Ω E st g a q):∃ st' r,gw (call G Ω) Ω E st g=some st'∧q st' r:=by
 unfold gW at h
 split at h
 ·rename_i hg
  obtain ⟨x,st',r,h1,h2⟩:=Ha h
  exact ⟨_,r,by simp only [gw,hg,h1,Option.bind_some],h2⟩
 ·rename_i j want hg
  split at h
  ·rename_i x hx
   obtain ⟨y,r,rfl,h⟩:=vn h
   split at h
   ·rename_i hy
    obtain ⟨x',st',r,h1,h2⟩:=Ha h
    exact ⟨_,r,by simp only [gw,hg,hx,zK,Option.bind_some,hy,if_true,h1],h2⟩
   ·rename_i hy
    exact ⟨_,r,by simp only [gw,hg,hx,zK,Option.bind_some,hy,Bool.false_eq_true,if_false],h⟩
  ·rename_i hx
   exact ⟨_,a,by simp only [gw,hg,hx,zK,Option.bind_some,Bool.false_eq_true,if_false],h⟩
  ·exact h.elim
theorem Hd{st:St}{p:bw}{a:AT}{q:KS}(h:K8 G Ω E st p a q):∃ P r,jt (call G Ω) Ω E p (view p st)=some P∧q (P.app st) r:=by
 obtain ⟨h0,h⟩:=bW h
 obtain ⟨h1,h⟩:=Jb h
 obtain ⟨x,st',r,h2,h3,h4⟩:=Ha h
 exact ⟨_,r,by simp only [jt,h0,h1,Bool.and_self,if_true,h2,Option.bind_some,h3],h4⟩
theorem Zu{st:St}{p:bw}{a:AT}{q:KS}(h:dW G Ω E st p a q):∃ st' r,cC (call G Ω) Ω E st p=some st'∧q st' r:=by
 unfold dW at h
 split at h
 ·rename_i hlt
  split at h
  ·rename_i hg
   obtain ⟨P,r,h1,h2⟩:=Hd h
   exact ⟨_,r,by simp only [cC,hlt,if_true,cB,hg,h1,Option.bind_some],h2⟩
  ·rename_i j want hg
   split at h
   ·rename_i x hx
    obtain ⟨y,r,rfl,h⟩:=vn h
    split at h
    ·rename_i hy
     obtain ⟨P,r,h1,h2⟩:=Hd h
     exact ⟨_,r,by simp only [cC,hlt,if_true,cB,hg,hx,zK,hy,h1,Option.bind_some],h2⟩
    ·rename_i hy
     exact ⟨_,r,by simp only [cC,hlt,if_true,cB,hg,hx,zK,hy,Option.bind_some,Bool.false_eq_true,if_false],h⟩
   ·rename_i hx
    exact ⟨_,a,by simp only [cC,hlt,if_true,cB,hg,hx,zK,Option.bind_some,Bool.false_eq_true,if_false],h⟩
   ·exact h.elim
 ·rename_i hlt
  obtain ⟨st',r,h1,h2⟩:=QG h
  exact ⟨st',r,by simp only [cC,hlt,Bool.false_eq_true,if_false,h1],h2⟩
theorem Eb{kf kb:List Nat} : ∀ {gs:List dL}{st:St}{a:AT}{q:KS},zW G Ω E kf kb st gs a q→∃ st' r,nv G Ω E kf kb gs st=some st'∧q st' r
 | [],st,a,q,h=>⟨_,a,rfl,h⟩
 | g::gs,st,a,q,h=>by
  have key:∀ a',(gW G Ω E st g a' fun st a=>zW G Ω E kf kb st gs a q)→∃ st' r,nv G Ω E kf kb (g::gs) st=some st'∧q st' r:=by
   intro a' h
   obtain ⟨st1,r1,h1,h2⟩:=QG h
   obtain ⟨st2,r2,h3,h4⟩:=Eb h2
   exact ⟨st2,r2,by simp only [nv,kQ,h1,Option.bind_some];exact h3,h4⟩
  unfold zW at h
  split at h
  ·split at h
   ·obtain ⟨b,h⟩:=ef h
    split at h
    ·exact ⟨_,_,h.1,h.2⟩
    ·exact h.elim
   ·exact key _ h
  ·exact key _ h
theorem Ec{kf kb:List Nat} : ∀ {gs:List bw}{st:St}{a:AT}{q:KS},zX G Ω E kf kb st gs a q→∃ st' r,yD G Ω E kf kb gs st=some st'∧q st' r
 | [],st,a,q,h=>⟨_,a,rfl,h⟩
 | g::gs,st,a,q,h=>by
  have key:∀ a',(dW G Ω E st g a' fun st a=>zX G Ω E kf kb st gs a q)→∃ st' r,yD G Ω E kf kb (g::gs) st=some st'∧q st' r:=by
   intro a' h
   obtain ⟨st1,r1,h1,h2⟩:=Zu h
   obtain ⟨st2,r2,h3,h4⟩:=Ec h2
   exact ⟨st2,r2,by simp only [yD,kD,h1,Option.bind_some];exact h3,h4⟩
  unfold zX at h
  split at h
  ·split at h
   ·obtain ⟨b,h⟩:=ef h
    split at h
    ·exact ⟨_,_,h.1,h.2⟩
    ·exact h.elim
   ·exact key _ h
  ·exact key _ h
theorem Pa{st:St}{p:uy}{a:AT}{q:KS}(h:uJ E st p a q):∃ st' r,eH E st p=some st'∧q st' r:=by
 cases p with
 | own d t=>
  simp only [uJ] at h
  split at h
  ·rename_i hx;exact ⟨_,a,by simp only [eH,hx],h⟩
  ·rename_i hx;exact ⟨_,a,by simp only [eH,hx],h⟩
  ·exact h.elim
 | fz d=>
  simp only [uJ] at h
  split at h
  ·rename_i hx;exact ⟨_,a,by simp only [eH,hx],h⟩
  ·exact h.elim
 | ownC d off t=>
  simp only [uJ] at h
  split at h
  ·rename_i k o hx
   obtain ⟨hro,h⟩:=h
   obtain ⟨cs,r,h1,h2⟩:=u9 h
   split at h2
   ·rename_i hc
    obtain ⟨r',h3⟩:=oW h2
    exact ⟨_,r',by simp only [eH,hx,sA hro,if_true,h1,Option.bind_some,hc],h3⟩
   ·rename_i hc
    exact ⟨_,r,by simp only [eH,hx,sA hro,if_true,h1,Option.bind_some,hc],h2⟩
   ·exact h2.elim
  ·exact h.elim
 | fzC d off=>
  simp only [uJ] at h
  split at h
  ·rename_i k o hx
   obtain ⟨hro,h⟩:=h
   obtain ⟨cs,r,h1,h2⟩:=u9 h
   split at h2
   ·rename_i t es hc
    obtain ⟨r',h3⟩:=oW h2
    exact ⟨_,r',by simp only [eH,hx,sA hro,if_true,h1,Option.bind_some,hc],h3⟩
   ·exact h2.elim
  ·exact h.elim
 | fzB d agg=>
  simp only [uJ] at h
  split at h
  ·rename_i k hx
   obtain ⟨h1,h⟩:=h
   split at h
   ·rename_i cs hb
    obtain ⟨h2,h⟩:=bW h
    split at h
    ·exact ⟨_,a,by simp only [eH,hx,if_pos h1,hb,Option.bind_some,if_pos h2,if_true],h⟩
    ·split at h
     ·exact ⟨_,a,by simp only [eH,hx,if_pos h1,hb,Option.bind_some,if_pos h2,Bool.false_eq_true,if_false],h⟩
     ·exact h.elim
   ·exact h.elim
  ·exact h.elim
 | iq d off nd sz=>
  simp only [uJ] at h
  split at h
  ·rename_i st' h1;exact ⟨st',a,h1,h⟩
  ·exact h.elim
 | unp d off=>
  simp only [uJ] at h
  split at h
  ·rename_i st' h1;exact ⟨st',a,h1,h⟩
  ·exact h.elim
theorem Ed:∀ {ps:List uy}{st:St}{a:AT}{q:KS},K9 E st ps a q→∃ st' r,qP E st ps=some st'∧q st' r
 | [],st,a,q,h=>⟨st,a,rfl,h⟩
 | p::ps,st,a,q,h=>by
  obtain ⟨st1,r1,h1,h2⟩:=Pa h
  obtain ⟨st2,r2,h3,h4⟩:=Ed h2
  exact ⟨st2,r2,by simp only [qP,h1,Option.bind_some,h3],h4⟩
theorem tj:∀ (c:AC){st:St}{a:AT}{q:KX},cW G Ω E c st a q→∃ e st' r,run G Ω E c st=some (e,st')∧q e st' r
 | .sk,st,a,q,h=>⟨_,_,a,bU E st,by simpa only [cW] using h⟩
 | .rg pre ops kf kb,st,a,q,h=>by
  simp only [cW] at h
  obtain ⟨st1,r1,h1,h2⟩:=Ed h
  obtain ⟨st2,r2,h3,h4⟩:=Eb h2
  obtain ⟨st3,h5,rfl⟩:=Option.map_eq_some_iff.1 h3
  exact ⟨_,_,r2,by rw [tG,h1,Option.bind_some,h5];rfl,h4⟩
 | .dg pre mks ops kf kb,st,a,q,h=>by
  simp only [cW] at h
  obtain ⟨st1,r1,h1,h0,h2⟩:=Ed h
  obtain ⟨st2,r2,h3,h4⟩:=Ec h2
  obtain ⟨st3,h5,rfl⟩:=Option.map_eq_some_iff.1 h3
  exact ⟨_,_,r2,by rw [GO,h1,Option.bind_some,if_pos h0,h5];rfl,h4⟩
 | .sq x y,st,a,q,h=>by
  simp only [cW] at h
  obtain ⟨e,st1,r1,h1,h2⟩:=tj x h
  cases e with
  | nrm=>
   obtain ⟨e,st2,r2,h3,h4⟩:=tj y h2
   exact ⟨e,st2,r2,by rw [k9,h1];exact h3,h4⟩
  | ex id=>exact ⟨_,_,r1,by rw [k9,h1];rfl,h2⟩
  | ret=>exact ⟨_,_,r1,by rw [k9,h1];rfl,h2⟩
 | .ite c x y,st,a,q,h=>by
  simp only [cW] at h
  split at h
  ·rename_i z hc
   obtain ⟨w,r,rfl,h⟩:=vn h
   cases z with
   | true=>
    obtain ⟨e,st1,r1,h1,h2⟩:=tj x h
    exact ⟨e,st1,r1,by rw [run_ite,hc];exact h1,h2⟩
   | false=>
    obtain ⟨e,st1,r1,h1,h2⟩:=tj y h
    exact ⟨e,st1,r1,by rw [run_ite,hc];exact h1,h2⟩
  ·exact h.elim
 | .bl id x,st,a,q,h=>by
  simp only [cW] at h
  obtain ⟨e,st1,r1,h1,h2⟩:=tj x h
  cases e with
  | nrm=>exact ⟨_,_,r1,by rw [l8,h1];rfl,h2⟩
  | ret=>exact ⟨_,_,r1,by rw [l8,h1];rfl,h2⟩
  | ex id'=>
   simp only at h2
   split at h2
   ·rename_i hi
    exact ⟨_,_,r1,by rw [l8,h1];simp only [Option.bind_some,inBlock,hi,if_true],h2⟩
   ·rename_i hi
    exact ⟨_,_,r1,by rw [l8,h1];simp only [Option.bind_some,inBlock,hi,if_false],h2⟩
 | .lp x,st,a,q,h=>by
  cases x with
  | kp kf kb x=>
   simp only [cW] at h
   obtain ⟨e,st1,r1,h1,h2⟩:=D9 h
   refine ⟨e,st1,r1,?_,h2⟩
   exact (ey G Ω E ⟨kf,kb,x⟩ st).trans h1
  | _=>
   simp only [cW] at h
   obtain ⟨e,st1,r1,h1,h2⟩:=D9 h
   exact ⟨e,st1,r1,h1,h2⟩
 | .ex id,st,a,q,h=>⟨_,_,a,iC E st id,by simpa only [cW] using h⟩
 | .ru g x y b,st,a,q,h=>by
  simp only [cW] at h
  obtain ⟨e,st1,r1,h1,h2⟩:=D9 h
  exact ⟨e,st1,r1,h1,h2⟩
 | .rt,st,a,q,h=>⟨_,_,a,db E st,by simpa only [cW] using h⟩
 | .kp kf kb x,st,a,q,h=>by
  unfold cW at h
  split at h
  ·obtain ⟨b,h⟩:=ef h
   split at h
   ·exact ⟨_,_,_,by rw [iD];exact h.1,h.2⟩
   ·exact h.elim
  ·obtain ⟨e,st1,r1,h1,h2⟩:=tj x h
   exact ⟨e,st1,r1,by rw [iD];exact h1,h2⟩
theorem BX{st:St}{x:AV}{a:AT}{q:AV→AT→Prop}(h:Db E st x a q):∃ y r,st.lJ E.dp x=some y∧q y r:=by
 unfold Db at h
 split at h
 ·exact ⟨_,a,rfl,h⟩
 ·obtain ⟨t,es,r,h1,h2⟩:=fk h
  exact ⟨_,r,by simp only [St.lJ,h1,Option.bind_some],h2⟩
 ·obtain ⟨h0,h⟩:=h
  obtain ⟨t,es,r,h1,h2⟩:=fk h
  exact ⟨_,r,by simp only [St.lJ,if_pos h0,h1,Option.bind_some],h2⟩
 ·obtain ⟨t,es,r,h1,h2⟩:=fk h
  obtain ⟨es',r,h3,rfl,h5⟩:=l9 h2
  exact ⟨_,r,by simp only [St.lJ,h1,Option.bind_some,if_pos h3],h5⟩
 ·exact h.elim
 ·exact h.elim
 ·exact h.elim
 ·exact h.elim
 ·exact h.elim
 ·rename_i h1 h2 h3 h4 h5 h6 h7 h8 h9
  refine ⟨x,a,?_,h⟩
  unfold St.lJ
  split
  ·exact (h1 _ _ rfl).elim
  ·exact (h2 _ rfl).elim
  ·exact (h3 _ _ rfl).elim
  ·exact (h4 _ _ _ rfl).elim
  ·exact (h7 _ _ _ rfl).elim
  ·exact (h8 _ _ rfl).elim
  ·exact (h9 _ _ _ rfl).elim
  ·rfl
theorem He{st:St} : ∀ {xs:List AV}{a:AT}{q:List AV→AT→Prop},La E st xs a q→∃ ys r,st.zM E.dp xs=some ys∧q ys r
 | [],a,q,h=>⟨[],a,rfl,h⟩
 | x::xs,a,q,h=>by
  obtain ⟨y,r,h1,h2⟩:=BX h
  obtain ⟨ys,r2,h3,h4⟩:=He h2
  exact ⟨_,r2,by simp only [St.zM,h1,h3,Option.bind_some],h4⟩
theorem Pb{st:St}{z:RV}{a:AT}{q:AV→AT→Prop}(h:Lb E st z a q):∃ y r,st.ub E z=some y∧q y r:=by
 cases z with
 | t n=>exact BX h
 | r n=>exact h.elim
 | c n sz=>
  simp only [Lb] at h
  split at h
  ·rename_i k off hx
   obtain ⟨h0,h⟩:=h
   split at h
   ·rename_i cs hb
    split at h
    ·rename_i ds hp
     obtain ⟨ys,r,h1,h2⟩:=He h
     exact ⟨_,r,by simp only [St.ub,hx,if_pos h0,hb,hp,h1,Option.bind_some],h2⟩
    ·rename_i y hy hp
     obtain ⟨z,r,h1,h2⟩:=BX h
     refine ⟨z,r,?_,h2⟩
     simp only [St.ub,hx,if_pos h0,hb,hp,Option.bind_some,h1]
    ·exact h.elim
   ·exact h.elim
  ·exact h.elim
theorem Ee{st:St} : ∀ {zs:List RV}{a:AT}{q:List AV→Prop},O9 E st zs a q→∃ xs,st.mY E zs=some xs∧q xs
 | [],a,q,h=>⟨[],rfl,h⟩
 | z::zs,a,q,h=>by
  obtain ⟨y,r,h1,h2⟩:=Pb h
  obtain ⟨ys,h3,h4⟩:=Ee h2
  exact ⟨_,by simp only [St.mY,h1,h3,Option.bind_some],h4⟩
theorem Pc{f:FuncId}{fn:aZ}{ys:List AV}{hp:HP}{q:AV→HP→Prop}(hG:G f=some fn)(a:AT)(h:Lc G Ω E fn ys hp a q):∃ x hp',call G Ω E f ys hp=some (.ret x,hp')∧q x hp':=by
 obtain ⟨e,st,r,h1,h2⟩:=tj fn.code h
 cases e with
 | ex id=>exact h2.elim
 | nrm=>
  obtain ⟨xs,h3,h4⟩:=Ee h2
  obtain ⟨h5,h6⟩:=bW h4
  exact ⟨_,_,by rw [np,hG,Option.bind_some,h1];simp only [Option.bind_some,St.end_,St.result,h3,h5,if_true],h6⟩
 | ret=>
  obtain ⟨xs,h3,h4⟩:=Ee h2
  obtain ⟨h5,h6⟩:=bW h4
  exact ⟨_,_,by rw [np,hG,Option.bind_some,h1];simp only [Option.bind_some,St.end_,St.result,h3,h5,if_true],h6⟩
theorem UY{st:St}{rs:List RV}{n:Nat}{k:Key}{cs:List AV}(h1:rs=[.t n])(h2:aj st.fr n= .p k 0)(h3:k.dp=E.dp)(h4:aq st.bx k.d=some cs)(h5:cs.all oU=true):st.end_ E rs=some (.new cs):=by
 subst h1
 have hr:st.result E [.t n]=none:=by simp [St.result,St.mY,St.ub,h2,St.lJ,AV.aK,AV.pure]
 simp only [St.end_,hr,St.ir,h2,if_pos h3,h4,Option.bind_some,h5,if_true,Option.map_some]
theorem MF{f:FuncId}{fn:aZ}{ys:List AV}{hp:HP}{q:List AV→HP→Prop}(hG:G f=some fn)(a:AT)(h:Hb G Ω E fn ys hp a q):∃ cs hp',call G Ω E f ys hp=some (.new cs,hp')∧q cs hp':=by
 obtain ⟨e,st,r,h1,h2⟩:=tj fn.code h
 have key:∀ {P:Prop},(match fn.res with
   | [.t n]=>match aj st.fr n with
    | .p k 0=>k.dp=E.dp∧(match aq st.bx k.d with
     | some cs=>(cs.all oU)=true∧q cs st.hp
     | none=>False)
    | _=>False
   | _=>False)→(∀ cs,st.end_ E fn.res=some (.new cs)→q cs st.hp→P)→P:=by
  intro P h2 hP
  split at h2
  ·rename_i n hres
   split at h2
   ·rename_i k hk
    obtain ⟨h3,h4⟩:=h2
    split at h4
    ·rename_i cs hb
     exact hP cs (UY hres hk h3 hb h4.1) h4.2
    ·exact h4.elim
   ·exact h2.elim
  ·exact h2.elim
 cases e with
 | ex id=>exact h2.elim
 | nrm=>exact key h2 fun cs h3 h4=>⟨cs,_,by rw [np,hG,Option.bind_some,h1];simp only [Option.bind_some,h3],h4⟩
 | ret=>exact key h2 fun cs h3 h4=>⟨cs,_,by rw [np,hG,Option.bind_some,h1];simp only [Option.bind_some,h3],h4⟩
theorem UZ{R:Type}{f:FuncId}{fn:aZ}{ys:List AV}{hp:HP}{Y:R→aQ×HP}{r:R}{T:Prop}(hG:G f=some fn)(a:AT)(h:T)(he:T=Hb G Ω E fn ys hp a fun y h=>(aQ.new y,h)=Y r):call G Ω E f ys hp=some (Y r):=by
 obtain ⟨y,h',h1,h2⟩:=MF hG a (he▸h)
 rw [←h2];exact h1
theorem Zv{R:Type}{f:FuncId}{fn:aZ}{ys:List AV}{hp:HP}{Y:R→aQ×HP}{r:R}{T:Prop}(hG:G f=some fn)(a:AT)(h:T)(he:T=Lc G Ω E fn ys hp a fun y h=>(aQ.ret y,h)=Y r):call G Ω E f ys hp=some (Y r):=by
 obtain ⟨y,h',h1,h2⟩:=Pc hG a (he▸h)
 rw [←h2];exact h1
theorem runT{R:Type}{c:AC}{st:St}{Y:R→aI×St}{r:R}{T:Prop}(a:AT)(h:T)(he:T=cW G Ω E c st a fun e s _=>(e,s)=Y r):run G Ω E c st=some (Y r):=by
 obtain ⟨e,s,_,h1,h2⟩:=tj c (he▸h)
 rw [←h2];exact h1
theorem Zw{R:Type}{kf kb:List Nat}{gs:List dL}{st:St}{Y:R→St}{r:R}{T:Prop}(a:AT)(h:T)(he:T=zW G Ω E kf kb st gs a fun s _=>s=Y r):nv G Ω E kf kb gs st=some (Y r):=by
 obtain ⟨s,_,h1,h2⟩:=Eb (he▸h)
 rw [←h2];exact h1
theorem Zx{R:Type}{kf kb:List Nat}{gs:List bw}{st:St}{Y:R→St}{r:R}{T:Prop}(a:AT)(h:T)(he:T=zX G Ω E kf kb st gs a fun s _=>s=Y r):yD G Ω E kf kb gs st=some (Y r):=by
 obtain ⟨s,_,h1,h2⟩:=Ec (he▸h)
 rw [←h2];exact h1
def QH(kf kb:List Nat):aI→St→St⊕(aI×St)
 | .nrm,s=>.inl (s.aH kf kb)
 | e,s=>.inr (e,s)
theorem ai{a b:Prop}(x:a)(y:b):a∧b:=⟨x,y⟩
theorem tt:true=true:=rfl
theorem gf:(false==true)=false:=rfl
theorem ht:(true==false)=false:=rfl
theorem hf:(false==false)=true:=rfl
abbrev W(w:List AV)(n:Nat):AV:=w.getD n .u
abbrev bt(r:AT):AT:=.co (.b true) r
abbrev bf(r:AT):AT:=.co (.b false) r
abbrev ao(x:JS)(r:AT):AT:=.co x r
theorem ff:false=false:=rfl
end
end Go.Proofs.YtkkkkondjclcnaaGreat.A
