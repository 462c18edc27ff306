/- Paths: what is told of a run (which way it goes, what an element is, what a call answers) gives what must be shown, and nothing else; all else is reckoned. -/
import Derived.Test.YtkkkkondjclcnaaGreatAbs3
import Derived.KernelRfl
set_option linter.all false
namespace Go.Proofs.YtkkkkondjclcnaaGreat.A
open Go
inductive NX where
 | b (x:Bool)
 | n (x:Nat)
 | i (x:Int)
 | v (x:AV)
 | l (es:List AV)
 | s (x:List UInt8)
 | h (hp:HP)
 | bx (bs:List (Nat×List AV))
 | lp (e:aI) (st:St)
 | fr (e:aI) (st:St)
 | jn (st:St)
inductive AT:Type 1 where
 | nil
 | no
 | co (x:NX) (r:AT)
 | or (a b:AT)
 | ex {α:Type} (f:α→AT)
 | jb (d:Option Nat) (n:Nat) (b:AT)
 | fb (b:AT)
def jj:AT→(AT→Prop)→Prop
 | .or a b,k=>jj a k∨jj b k
 | .ex f,k=>∃ x,jj (f x) k
 | .no,_=>False
 | a,k=>k a
theorem fA{k:AT→Prop} : ∀ {a:AT},jj a k→∃ b,k b
 | .or a b,h=>by
  rw [jj] at h
  rcases h with h | h
  ·exact fA h
  ·exact fA h
 | .ex f,h=>by
  rw [jj] at h
  obtain ⟨x,h⟩:=h
  exact fA h
 | .no,h=>h.elim
 | .nil,h=>⟨_,h⟩
 | .co _ _,h=>⟨_,h⟩
 | .jb _ _ _,h=>⟨_,h⟩
 | .fb _,h=>⟨_,h⟩
def GG(a:AT)(k:Bool→AT→Prop):Prop:=jj a fun a=>match a with
 | .co (.b x) r=>k x r
 | _=>False
def tkN(a:AT)(k:Nat→AT→Prop):Prop:=jj a fun a=>match a with
 | .co (.n x) r=>k x r
 | _=>False
def GH(a:AT)(k:Int→AT→Prop):Prop:=jj a fun a=>match a with
 | .co (.i x) r=>k x r
 | _=>False
def Lg(a:AT)(k:AV→AT→Prop):Prop:=jj a fun a=>match a with
 | .co (.v x) r=>k x r
 | _=>False
def zk(a:AT)(k:List AV→AT→Prop):Prop:=jj a fun a=>match a with
 | .co (.l x) r=>k x r
 | _=>False
def tkS(a:AT)(k:List UInt8→AT→Prop):Prop:=jj a fun a=>match a with
 | .co (.s x) r=>k x r
 | _=>False
def Lh(a:AT)(k:HP→AT→Prop):Prop:=jj a fun a=>match a with
 | .co (.h x) r=>k x r
 | _=>False
def Tg(a:AT)(k:List (Nat×List AV)→AT→Prop):Prop:=jj a fun a=>match a with
 | .co (.bx x) r=>k x r
 | _=>False
def Pf(a:AT)(k:aI→St→AT→Prop):Prop:=jj a fun a=>match a with
 | .co (.lp e st) r=>k e st r
 | _=>False
def ja(b:Bool)(p:Prop):Prop:=match b with
 | true=>p
 | false=>False
theorem vV{a:AT}{k:Bool→AT→Prop}(h:GG a k):∃ x r,k x r:=by
 obtain ⟨b,h⟩:=fA h
 split at h
 ·exact ⟨_,_,h⟩
 ·exact h.elim
theorem QS{a:AT}{k:Nat→AT→Prop}(h:tkN a k):∃ x r,k x r:=by
 obtain ⟨b,h⟩:=fA h
 split at h
 ·exact ⟨_,_,h⟩
 ·exact h.elim
theorem vW{a:AT}{k:Int→AT→Prop}(h:GH a k):∃ x r,k x r:=by
 obtain ⟨b,h⟩:=fA h
 split at h
 ·exact ⟨_,_,h⟩
 ·exact h.elim
theorem Ah{a:AT}{k:AV→AT→Prop}(h:Lg a k):∃ x r,k x r:=by
 obtain ⟨b,h⟩:=fA h
 split at h
 ·exact ⟨_,_,h⟩
 ·exact h.elim
theorem nU{a:AT}{k:List AV→AT→Prop}(h:zk a k):∃ x r,k x r:=by
 obtain ⟨b,h⟩:=fA h
 split at h
 ·exact ⟨_,_,h⟩
 ·exact h.elim
theorem QT{a:AT}{k:List UInt8→AT→Prop}(h:tkS a k):∃ x r,k x r:=by
 obtain ⟨b,h⟩:=fA h
 split at h
 ·exact ⟨_,_,h⟩
 ·exact h.elim
theorem Ai{a:AT}{k:HP→AT→Prop}(h:Lh a k):∃ x r,k x r:=by
 obtain ⟨b,h⟩:=fA h
 split at h
 ·exact ⟨_,_,h⟩
 ·exact h.elim
theorem NY{a:AT}{k:List (Nat×List AV)→AT→Prop}(h:Tg a k):∃ x r,k x r:=by
 obtain ⟨b,h⟩:=fA h
 split at h
 ·exact ⟨_,_,h⟩
 ·exact h.elim
theorem Ik{a:AT}{k:aI→St→AT→Prop}(h:Pf a k):∃ e st r,k e st r:=by
 obtain ⟨b,h⟩:=fA h
 split at h
 ·exact ⟨_,_,_,h⟩
 ·exact h.elim
theorem cU{b:Bool}{p:Prop}(h:ja b p):b=true∧p:=by
 cases b with
 | true=>exact ⟨rfl,h⟩
 | false=>exact h.elim
def Li(x:AV)(a:AT)(k:Nat→AT→Prop):Prop:=match x with
 | .i _ n=>tkN a fun j r=>n=(j:Int)∧k j r
 | _=>False
theorem Il{x:AV}{a:AT}{k:Nat→AT→Prop}(h:Li x a k):∃ j r,qV x=some j∧k j r:=by
 unfold Li at h;split at h
 ·obtain ⟨j,r,h1,h2⟩:=QS h
  subst h1
  exact ⟨j,r,by simp [qV],h2⟩
 ·exact h.elim
def E9(E:Env)(st:St)(k:Key)(a:AT)(q:List AV→AT→Prop):Prop:=
 GG a fun own r=>match own with
  | true=>k.dp=E.dp∧(match aO st.bx k.d with
   | some cs=>q cs r
   | none=>False)
  | false=>zk r fun cs r=>k.dp≠E.dp∧st.hp k=some cs∧q cs r
theorem xz{E:Env}{st:St}{k:Key}{a:AT}{q:List AV→AT→Prop}(h:E9 E st k a q):∃ cs r,st.box E.dp k=some cs∧q cs r:=by
 obtain ⟨own,r,h⟩:=vV h
 cases own with
 | true=>
  obtain ⟨h1,h2⟩:=h
  split at h2
  ·rename_i cs hb
   exact ⟨cs,r,by simp only [St.box,ab h1,hb],h2⟩
  ·exact h2.elim
 | false=>
  obtain ⟨cs,r,h1,h2,h3⟩:=nU h
  exact ⟨cs,r,by simp only [St.box,ad h1,h2],h3⟩
def uP(E:Env)(st:St)(k:Key)(cs:List AV)(a:AT)(q:St→AT→Prop):Prop:=
 GG a fun own r=>match own with
  | true=>k.dp=E.dp∧q {st with bx:=nP st.bx k.d cs} r
  | false=>Lh r fun hp r=>k.dp≠E.dp∧aF st.hp k cs=hp∧q {st with hp:=hp} r
theorem qY{E:Env}{st:St}{k:Key}{cs:List AV}{a:AT}{q:St→AT→Prop}(h:uP E st k cs a q):∃ r,q (st.aK E.dp k cs) r:=by
 obtain ⟨own,r,h⟩:=vV h
 cases own with
 | true=>
  obtain ⟨h1,h2⟩:=h
  exact ⟨r,by simp only [St.aK,ab h1];exact h2⟩
 | false=>
  obtain ⟨hp,r,h1,h2,h3⟩:=Ai h
  subst h2
  exact ⟨r,by simp only [St.aK,ad h1];exact h3⟩
def oD(E:Env)(st:St)(pl:Pl)(a:AT)(q:TypeId→List AV→AT→Prop):Prop:=
 match pl with
 | .s d=>match ax st.fr d with
  | .o t es=>q t es a
  | _=>False
 | .c k off=>E9 E st k a fun cs r=>match cs[off]? with
  | some (.o t es)=>q t es r
  | _=>False
theorem iq{E:Env}{st:St}{pl:Pl}{a:AT}{q:TypeId→List AV→AT→Prop}(h:oD E st pl a q):∃ t es r,st.rowAt E.dp pl=some (t,es)∧q t es r:=by
 unfold oD at h
 split at h
 ·split at h
  ·rename_i t es hx
   exact ⟨t,es,a,by simp only [St.rowAt,hx],h⟩
  ·exact h.elim
 ·obtain ⟨cs,r,h1,h2⟩:=xz h
  split at h2
  ·rename_i t es hx
   exact ⟨t,es,r,by simp only [St.rowAt,h1,hx],h2⟩
  ·exact h2.elim
def CT(E:Env)(st:St)(x:AV)(pl:Pl)(a:AT)(q:St→AT→Prop):Prop:=
 match pl with
 | .s d=>q (st.cV d x) a
 | .c k off=>E9 E st k a fun cs r=>uP E st k (cs.set off x) r q
theorem CU{E:Env}{st:St}{x:AV}{pl:Pl}{a:AT}{q:St→AT→Prop}(h:CT E st x pl a q):∃ st' r,st.putAt E.dp x pl=some st'∧q st' r:=by
 unfold CT at h
 split at h
 ·exact ⟨_,a,rfl,h⟩
 ·obtain ⟨cs,r,h1,h2⟩:=xz h
  obtain ⟨r',h3⟩:=qY h2
  exact ⟨_,r',by simp only [St.putAt,h1],h3⟩
def D6(sz:Nat)(es:List AV)(j:Nat)(a:AT)(q:AV→AT→Prop):Prop:=Lg a fun e r=>es[j]? =some e∧ja (e.nc==sz) (q e r)
theorem xK{sz:Nat}{es:List AV}{j:Nat}{a:AT}{q:AV→AT→Prop}(h:D6 sz es j a q):∃ e r,es[j]? =some e∧e.nc=sz∧q e r:=by
 obtain ⟨e,r,h1,h2⟩:=Ah h
 obtain ⟨h3,h4⟩:=cU h2
 exact ⟨e,r,h1,by simpa using h3,h4⟩
theorem xA{E:Env}(h:E.ro=false)(pl:Pl):pl.iJ E=true:=by cases pl<;>simp [Pl.iJ,h]
def Th(E:Env):Pl→Prop
 | .s _=>(false:Bool)=false
 | .c _ _=>E.ro=false
theorem NZ{E:Env} : ∀ {pl:Pl},Th E pl→pl.iJ E=true
 | .s _,_=>rfl
 | .c _ _,h=>xA h _
def GI(E:Env)(st:St)(x:AV)(a:AT)(q:TypeId→List AV→AT→Prop):Prop:=
 match x with
 | .l t es=>q t es a
 | .n=>q 0 [] a
 | .o t es=>q t es a
 | .r pl=>oD E st pl a q
 | .v pl lo len=>oD E st pl a fun t es r=>zk r fun es' r=>lo+len≤es.length∧(es.drop lo).take len=es'∧q t es' r
 | _=>False
theorem Jz{E:Env}{st:St}{x:AV}{a:AT}{q:TypeId→List AV→AT→Prop}(h:GI E st x a q):∃ t es r,st.elems E.dp x=some (t,es)∧q t es r:=by
 unfold GI at h
 split at h
 ·exact ⟨_,_,a,rfl,h⟩
 ·exact ⟨_,_,a,rfl,h⟩
 ·exact ⟨_,_,a,rfl,h⟩
 ·obtain ⟨t,es,r,h1,h2⟩:=iq h
  exact ⟨t,es,r,h1,h2⟩
 ·obtain ⟨t,es,r,h1,h2⟩:=iq h
  obtain ⟨es',r',h3,h4,h5⟩:=nU h2
  subst h4
  exact ⟨t,_,r',by simp only [St.elems,h1,ab h3],h5⟩
 ·exact h.elim
def xj(E:Env)(st:St):List AV→AT→(List AV→List TypeId→AT→Prop)→Prop
 | [],a,q=>q [] [] a
 | x::xs,a,q=>(match x with
  | .o t es=>xj E st xs a fun ys ts r=>q (.l t es::ys) ([t]++ts) r
  | .r pl=>oD E st pl a fun t es r=>xj E st xs r fun ys ts r=>q (.l t es::ys) ([t]++ts) r
  | .v pl lo len=>oD E st pl a fun t es r=>zk r fun es' r=>lo+len≤es.length∧(es.drop lo).take len=es'∧xj E st xs r fun ys ts r=>q (.l t es'::ys) ([t]++ts) r
  | .w _ t x=>xj E st xs a fun ys ts r=>q (x::ys) ([t]++ts) r
  | x=>ja x.pure (xj E st xs a fun ys ts r=>q (x::ys) ([]++ts) r))
theorem sX{E:Env}{st:St} : ∀ {xs:List AV}{a:AT}{q:List AV→List TypeId→AT→Prop},xj E st xs a q→∃ ys ts r,st.ew E.dp xs=some (ys,ts)∧q ys ts r
 | [],a,q,h=>⟨[],[],a,rfl,h⟩
 | x::xs,a,q,h=>by
  unfold xj at h
  split at h
  ·obtain ⟨ys,ts,r,h1,h2⟩:=sX h
   exact ⟨_,_,r,by simp [St.ew,St.iD,h1],h2⟩
  ·obtain ⟨t,es,r,h1,h2⟩:=iq h
   obtain ⟨ys,ts,r,h3,h4⟩:=sX h2
   exact ⟨_,_,r,by simp [St.ew,St.iD,h1,h3],h4⟩
  ·obtain ⟨t,es,r,h1,h2⟩:=iq h
   obtain ⟨es',r,h3,h4,h5⟩:=nU h2
   obtain ⟨ys,ts,r,h6,h7⟩:=sX h5
   subst h4
   exact ⟨_,_,r,by simp [St.ew,St.iD,h1,h3,h6],h7⟩
  ·obtain ⟨ys,ts,r,h1,h2⟩:=sX h
   exact ⟨_,_,r,by simp [St.ew,St.iD,h1],h2⟩
  ·rename_i h1 h2 h3 hw
   obtain ⟨h4,h5⟩:=cU h
   obtain ⟨ys,ts,r,h6,h7⟩:=sX h5
   refine ⟨_,_,r,?_,h7⟩
   have:st.iD E.dp x=some (x,[]):=by
    unfold St.iD
    split
    ·exact (h1 _ _ rfl).elim
    ·exact (h2 _ rfl).elim
    ·exact (h3 _ _ _ rfl).elim
    ·exact (hw _ _ _ rfl).elim
    ·simp [AV.pure] at h4
    ·rw [ab (by simpa [AV.pure] using h4)]
    ·rw [ab h4]
   simp [St.ew,this,h6]
abbrev KW:=AV→St→AT→Prop
section
variable (G:qv)(Ω:du)(E:Env)(st:St)(d:Option Nat)
def iaW(sz:Nat)(arr:Option Nat)(x:AV)(xo:ba)(j:Nat)(a:AT)(k:KW):Prop:=
 match arr with
 | some len=>j<len∧(match x with
  | .p kk o=>k (.p kk (o+j*sz)) st a
  | .e y o=>k (.e y (o+j*sz)) st a
  | _=>False)
 | none=>match x with
  | .l _ es=>D6 sz es j a fun e r=>k (.e e 0) st r
  | .o _ es=>match xo with
   | .t m=>D6 sz es j a fun _ r=>k (.q (.s m) j sz 0) st r
   | .c _=>False
  | .r pl=>oD E st pl a fun _ es r=>D6 sz es j r fun _ r=>k (.q pl j sz 0) st r
  | .v pl lo len=>oD E st pl a fun _ es r=>j<len∧lo+len≤es.length∧(D6 sz es (lo+j) r fun _ r=>k (.q pl (lo+j) sz 0) st r)
  | _=>False
def Ti(E:Env)(k:Key):Prop:=match E.ro with
 | false=>false=false
 | true=>k.dp=E.dp
theorem Pg{E:Env}{k:Key}(h:Ti E k)(off:Nat):(Pl.c k off).iJ E=true:=by
 unfold Ti at h
 cases hr:E.ro with
 | false=>exact xA hr _
 | true=>rw [hr] at h;simp [Pl.iJ,h]
def boW(op:BinOp)(bl:Bool)(x y:AV)(a:AT)(k:KW):Prop:=
 match x,y with
 | .i ki m,.i ki' n=>if ki=ki' then
   match op with
   | .add=>GH a fun r a=>ki.wrap (m+n)=r∧k (.i ki r) st a
   | .sub=>GH a fun r a=>ki.wrap (m - n)=r∧k (.i ki r) st a
   | .mul=>GH a fun r a=>ki.wrap (m*n)=r∧k (.i ki r) st a
   | .quo=>GH a fun r a=>n≠0∧ki.wrap (m.tdiv n)=r∧k (.i ki r) st a
   | .rem=>GH a fun r a=>n≠0∧m.tmod n=r∧k (.i ki r) st a
   | .or=>GH a fun r a=>(if n>m then n else m)=r∧k (.i ki r) st a
   | .eql=>k (.b (m==n)) st a
   | .neq=>k (.b (m !=n)) st a
   | .lss=>k (.b (decide (m<n))) st a
   | .leq=>k (.b (decide (m≤n))) st a
   | .gtr=>k (.b (decide (n<m))) st a
   | .geq=>k (.b (decide (n≤m))) st a
   | _=>False
  else False
 | .b m,.b n=>match bl,op with
  | true,.eql=>k (.b (m==n)) st a
  | true,.neq=>k (.b (!(m==n))) st a
  | _,_=>False
 | .s m,.s n=>match op with
  | .add=>tkS a fun r a=>m.length+n.length≤4611686018427387904∧m++n=r∧k (.s r) st a
  | .eql=>k (.b (m==n)) st a
  | .neq=>k (.b (!(m==n))) st a
  | _=>False
 | _,_=>False
def ldW(n:Option Nat)(x:AV)(a:AT)(k:KW):Prop:=
 match x with
 | .p kk off=>E9 E st kk a fun cs a=>match pick n off cs with
  | some (.o _ _)=>k (.r (.c kk off)) st a
  | some y=>ja y.copy (k y st a)
  | none=>False
 | .e x off=>match pick n off x.cl with
  | some y=>k y st a
  | none=>False
 | .q pl i sz off=>oD E st pl a fun _ es a=>D6 sz es i a fun e a=>match pick n off e.cl with
  | some y=>k y st a
  | none=>False
 | _=>False
def stW(n:Nat)(x y:AV)(yo:ba)(a:AT)(k:KW):Prop:=
 match x with
 | .p kk off=>Ti E kk∧(E9 E st kk a fun cs a=>match y with
  | .o t es=>match yo with
   | .t m=>ja (n==1&&decide (off<cs.length)) (uP E ((st.cV m .u).aZ (.c kk off)) kk (cs.set off (.o t es)) a fun st' a=>k .u st' a)
   | .c _=>False
  | .v pl lo len=>pl= .c kk off∧ja (lo==0&&n==1) (oD E st pl a fun t es a=>zk a fun es' a=>len≤es.length∧es.take len=es'∧(uP E (st.aZ (.c kk off)) kk (cs.set off (.o t es')) a fun st' a=>k .u st' a))
  | y=>y.deep kk.dp=true∧ja (y.copy&&y.nc==n&&y.cl.all AV.one&&decide (off+n≤cs.length)) (uP E st kk (putCells cs off y.cl) a fun st' a=>k .u st' a))
 | .q pl i sz off=>E.ro=false∧(oD E st pl a fun t es a=>Lg a fun e a=>es[i]? =some e∧ja (e.nc==sz&&y.pure&&y.nc==n&&y.cl.all AV.one&&decide (off+n≤sz)) (zk a fun es' a=>es.set i (A9 e off y.cl)=es'∧(CT E st (.o t es') pl a fun st' a=>k .u st' a)))
 | _=>False
def Fa(x:Option AV)(dflt:Nat)(a:AT)(k:Nat→AT→Prop):Prop:=
 match x with
 | none=>k dflt a
 | some y=>Li y a k
def slW(t sz:Nat)(x:AV)(lo hi:Option AV)(a:AT)(k:KW):Prop:=
 match x with
 | .s l=>Fa lo 0 a fun i a=>Fa hi l.length a fun j a=>tkS a fun r a=>t=0∧i≤j∧j≤l.length∧(l.take j).drop i=r∧k (.s r) st a
 | .l t' es=>Fa lo 0 a fun i a=>Fa hi es.length a fun j a=>zk a fun r a=>t≠0∧es.all (fun e=>e.nc==sz)=true∧i≤j∧j≤es.length∧(es.take j).drop i=r∧k (.l t' r) st a
 | .r pl=>oD E st pl a fun t' es a=>Fa lo 0 a fun i a=>Fa hi es.length a fun j a=>tkN a fun m a=>ja (t !=0&&t'==t) (i≤j∧j≤es.length∧j - i=m∧k (.v pl i m) st a)
 | _=>False
def Fb(t:TypeId)(x:ba)(a:AT)(k:List AV→St→AT→Prop):Prop:=
 match x with
 | .c .n=>k [] st a
 | .c _=>False
 | .t m=>match ax st.fr m with
  | .n=>k [] st a
  | .o t' es=>ja (t'==t) (k es (st.cV m .u) a)
  | .r pl=>Th E pl∧(oD E st pl a fun t' es a=>ja (t'==t) (CT E st .u pl a fun st' a=>k es st' a))
  | .v pl lo len=>Th E pl∧ja (lo==0) (oD E st pl a fun t' es a=>zk a fun es' a=>len≤es.length∧t'=t∧es.take len=es'∧(CT E st .u pl a fun st' a=>k es' st' a))
  | _=>False
noncomputable def QU(m:Nat)(f:FuncId)(args:List AV)(a:AT)(k:KW):Prop:=
 match m with
 | 0=>xj E st args a fun ys ts a=>Lg a fun x a=>call G Ω ⟨0,false⟩ f ys (fun _=>none)=some (.ret x,fun _=>none)∧(match ts with
  | []=>ja x.pure (k x st a)
  | ts=>x.pure=true∧x.off ts=true∧k x st a)
 | 1=>xj E st args a fun ys ts a=>Lg a fun x a=>Ω f ys=some x∧(match ts with
  | []=>ja x.pure (k x st a)
  | ts=>x.pure=true∧x.off ts=true∧k x st a)
 | _=>False
noncomputable def QV(f:FuncId)(args:List AV)(a:AT)(k:KW):Prop:=
 match args.all AV.mG with
 | true=>QU G Ω E st 0 f args a k
 | false=>E.ro=false∧(st.bx.all fun y=>AV.ee E.dp y.2)=true∧ja (args.all AV.copy) (Lg a fun x a=>Lh a fun h2 a=>Tg a fun bx a=>Lh a fun h3 a=>
  call G Ω ⟨E.dp+1,false⟩ f args (fun kk=>st.box E.dp kk)=some (.ret x,h2)∧ib E.dp h2 st.bx=bx∧(fun kk:Key=>if kk.dp<E.dp then h2 kk else none)=h3∧
  k x ⟨st.fr.map fun y=>(y.1,if lV y.2=true then .u else y.2),bx,h3⟩ a)
noncomputable def c3W(f:FuncId)(args:List AV)(a:AT)(k:KW):Prop:=
 (st.bx.all fun y=>AV.ee E.dp y.2)=true∧ja (args.all AV.copy) (Lg a fun x a=>Lh a fun h2 a=>call G Ω ⟨E.dp+1,true⟩ f args (fun kk=>st.box E.dp kk)=some (.ret x,h2)∧ja x.pure (k x st a))
noncomputable def cnW(dd:Nat)(f:FuncId)(args:List AV)(a:AT)(k:KW):Prop:=
 E.ro=false∧(st.bx.all fun y=>AV.ee E.dp y.2)=true∧ja (args.all AV.copy) (zk a fun cs a=>Lh a fun h2 a=>Tg a fun bx a=>Lh a fun h3 a=>
  call G Ω ⟨E.dp+1,false⟩ f args (fun kk=>st.box E.dp kk)=some (.new cs,h2)∧ib E.dp h2 st.bx=bx∧(fun kk:Key=>if kk.dp<E.dp then h2 kk else none)=h3∧
  Gn E.dp ⟨st.fr.map fun y=>(y.1,if lV y.2=true then .u else y.2),bx,h3⟩ dd=true∧
  k (.p ⟨E.dp,dd⟩ 0) ⟨st.fr.map fun y=>(y.1,if lV y.2=true then .u else y.2),(dd,cs)::bx,h3⟩ a)
noncomputable def oX(a:AT)(o:oV)(k:KW):Prop:=
 match o with
 | .mv x=>match st.ev x with
  | .o _ _=>match x with
   | .t n=>k (.r (.s n)) st a
   | .c _=>False
  | y=>k y st a
 | .as x=>match x with
  | .c y=>ja y.pure (k y st a)
  | .t n=>match ax st.fr n with
   | .o t es=>match d with
    | some d=>k (.o t es) ((st.cV n .u).aZ (.s d)) a
    | none=>False
   | .v pl lo len=>match d with
    | some d=>GG a fun own a=>match own with
     | true=>pl= .s d∧ja (lo==0) (oD E st pl a fun t es a=>zk a fun es' a=>len≤es.length∧es.take len=es'∧k (.o t es') (st.aZ (.s d)) a)
     | false=>(pl= .s d→(lo==0)=false)∧k (.v pl lo len) st a
    | none=>False
   | y=>ja (y.copy||D2 y) (k y st a)
 | .pk c x y=>match st.ev c with
  | .b z=>GG a fun w a=>z=w∧(match w with
   | true=>ja (st.ev x).copy (k (st.ev x) st a)
   | false=>ja (st.ev y).copy (k (st.ev y) st a))
  | _=>False
 | .bx x=>match d with
  | some d=>((st.ev x).deep E.dp&&(st.fr.all (fun y=>y.2.cC ⟨E.dp,d⟩)&&st.bx.all (fun y=>AV.dB ⟨E.dp,d⟩ y.2)))=true∧
   ja ((st.ev x).copy&&(st.ev x).cl.all AV.one&&iK st.bx d) (k (.p ⟨E.dp,d⟩ 0) {st with bx:=(d,(st.ev x).cl)::st.bx} a)
  | none=>False
 | .al zs=>match d with
  | some d=>(st.fr.all (fun y=>y.2.cC ⟨E.dp,d⟩)&&st.bx.all (fun y=>AV.dB ⟨E.dp,d⟩ y.2))=true∧ja (iK st.bx d) (k (.p ⟨E.dp,d⟩ 0) {st with bx:=(d,zs)::st.bx} a)
  | none=>False
 | .ld n x=>ldW E st n (st.ev x) a k
 | .st n x y=>stW E st n (st.ev x) (st.ev y) y a k
 | .fa off x=>match st.ev x with
  | .p kk o=>k (.p kk (o+off)) st a
  | .e y o=>k (.e y (o+off)) st a
  | .q pl i sz o=>oD E st pl a fun _ es a=>i<es.length∧k (.q pl i sz (o+off)) st a
  | _=>False
 | .fd n off x=>match st.ev x with
  | .a cs=>match pick n off cs with
   | some y=>k y st a
   | none=>False
  | _=>False
 | .ia sz arr x i=>Li (st.ev i) a fun j a=>iaW E st sz arr (st.ev x) x j a k
 | .bo op bl x y=>boW st op bl (st.ev x) (st.ev y) a k
 | .no x=>match st.ev x with
  | .b y=>k (.b (!y)) st a
  | _=>False
 | .ae ks ng x y=>match st.ev x,st.ev y with
  | .a xs,.a ys=>GG a fun r a=>iZ ks xs ys=some r∧k (.b (if ng then !r else r)) st a
  | _,_=>False
 | .bs t sz es=>match d with
  | some d=>ja ((es.map st.ev).all fun y=>y.pure&&y.cl.all AV.one&&y.nc==sz) (zk a fun vs a=>es.map st.ev=vs∧k (.o t vs) (st.aZ (.s d)) a)
  | none=>False
 | .bd zs fs=>ja (fs.all fun f=>(st.ev f.2.2).copy&&(st.ev f.2.2).nc==f.2.1&&(st.ev f.2.2).cl.all AV.one&&decide (f.1+f.2.1≤zs.length))
   (k (.a (fs.foldl (fun cs f=>putCells cs f.1 (st.ev f.2.2).cl) zs)) st a)
 | .ms t _ by_ x n=>match d with
  | some d=>Li (st.ev n) a fun n a=>zk a fun es a=>n*by_≤140737488355328∧n≤maxLen∧List.replicate n x=es∧k (.o t es) (st.aZ (.s d)) a
  | none=>False
 | .sl t sz x lo hi=>slW E st t sz (st.ev x) (lo.map st.ev) (hi.map st.ev) a k
 | .ex x i=>match st.ev x with
  | .tp vs=>match vs[i]? with
   | some y=>k y st a
   | none=>False
  | _=>False
 | .mf f caps=>ja (AV.mE (caps.map st.ev)) (k (.f f (caps.map st.ev)) st a)
 | .ca m f args=>QU G Ω E st m f (args.map st.ev) a k
 | .cf m x args=>match st.ev x with
  | .f f caps=>ja (decide (f<1000000)) (QU G Ω E st m f (args.map st.ev++caps) a k)
  | _=>False
 | .c2 f args=>QV G Ω E st f (args.map st.ev) a k
 | .d2 x args=>match st.ev x with
  | .f f caps=>match decide (f<1000000) with
   | true=>QV G Ω E st f (args.map st.ev++caps) a k
   | false=>QV G Ω E st (f - 1000000) (caps++args.map st.ev) a k
  | _=>False
 | .c3 f args=>c3W G Ω E st f (args.map st.ev) a k
 | .d3 x args=>match st.ev x with
  | .f f caps=>ja (decide (f<1000000)) (c3W G Ω E st f (args.map st.ev++caps) a k)
  | _=>False
 | .cn f args=>match d with
  | some dd=>cnW G Ω E st dd f (args.map st.ev) a k
  | none=>False
 | .cm _ _ _ _=>False
 | .cr t f args=>match d with
  | some dd=>ja (AV.bk (args.map st.ev)) (Ω f (args.map st.ev)=some (.o t [])∧k (.o t []) (st.aZ (.s dd)) a)
  | none=>False
 | .ln str x=>match st.ev x with
  | .s l=>ja str (GH a fun n a=>(l.length:Int)=n∧k (.i .i64 n) st a)
  | y=>ja (!str) (GI E st y a fun _ es a=>GH a fun n a=>(es.length:Int)=n∧k (.i .i64 n) st a)
 | .ap t sz by_ x y=>match d with
  | some d=>GI E st (st.ev y) a fun _ ys a=>Fb E st t x a fun es st' a=>zk a fun r a=>
    ys.all (fun e=>e.nc==sz)=true∧(es.length+ys.length)*by_≤140737488355328∧es.length+ys.length≤maxLen∧es++ys=r∧k (.o t r) (st'.aZ (.s d)) a
  | none=>False
 | .nc x=>match st.ev x with
  | .p kk o=>k (.p kk o) st a
  | .e y o=>k (.e y o) st a
  | .f g caps=>k (.f g caps) st a
  | _=>False
end
section
variable {G:qv}{Ω:du}{E:Env}{st:St}{d:Option Nat}
def Told(o:oV)(k:KW)(G:qv)(Ω:du)(E:Env)(st:St)(d:Option Nat):Prop:=∃ x st' r,execOp (call G Ω) Ω E st d o=some (x,st')∧k x st' r
theorem Told.mk{o:oV}{k:KW}{x:AV}{st':St}{r:AT}(h:execOp (call G Ω) Ω E st d o=some (x,st'))(hk:k x st' r):Told o k G Ω E st d:=⟨x,st',r,h,hk⟩
theorem zl{sz:Nat}{es:List AV}{j:Nat}{e:AV}{f:AV→AV}(h:es[j]? =some e)(hn:e.nc=sz):elemAt sz st es[j]? f=some (f e,st):=by
 rw [h];simp only [elemAt,af,hn,aq]
theorem aa0{op:BinOp}{bl:Bool}{x y:ba}{a:AT}{k:KW}(h:boW st op bl (st.ev x) (st.ev y) a k):Told (.bo op bl x y) k G Ω E st d:=by
 unfold boW at h
 split at h
 ·rename_i ki m ki' n hx hy
  split at h
  ·rename_i hki
   subst hki
   split at h
   ·obtain ⟨r,a',h1,h2⟩:=vW h
    exact .mk (by simp only [execOp,hx,hy,py,aq,sV,h1,af]) h2
   ·obtain ⟨r,a',h1,h2⟩:=vW h
    exact .mk (by simp only [execOp,hx,hy,py,aq,sV,h1,af]) h2
   ·obtain ⟨r,a',h1,h2⟩:=vW h
    exact .mk (by simp only [execOp,hx,hy,py,aq,sV,h1,af]) h2
   ·obtain ⟨r,a',h0,h1,h2⟩:=vW h
    exact .mk (by simp only [execOp,hx,hy,py,aq,sV,ad h0,h1,af]) h2
   ·obtain ⟨r,a',h0,h1,h2⟩:=vW h
    exact .mk (by simp only [execOp,hx,hy,py,aq,sV,ad h0,h1,af]) h2
   ·obtain ⟨r,a',h1,h2⟩:=vW h
    exact .mk (by simp only [execOp,hx,hy,py,aq,sV,h1,af]) h2
   ·exact .mk (by simp only [execOp,hx,hy,py,aq,sV,af]) h
   ·exact .mk (by simp only [execOp,hx,hy,py,aq,sV,af]) h
   ·exact .mk (by simp only [execOp,hx,hy,py,aq,sV,af]) h
   ·exact .mk (by simp only [execOp,hx,hy,py,aq,sV,af]) h
   ·exact .mk (by simp only [execOp,hx,hy,py,aq,sV,af]) h
   ·exact .mk (by simp only [execOp,hx,hy,py,aq,sV,af]) h
   ·exact h.elim
  ·exact h.elim
 ·rename_i m n hx hy
  split at h
  ·exact .mk (by simp only [execOp,hx,hy,py,aq,af]) h
  ·exact .mk (by simp only [execOp,hx,hy,py,aq,af]) h
  ·exact h.elim
 ·rename_i m n hx hy
  split at h
  ·obtain ⟨r,a',h0,h1,h2⟩:=QT h
   exact .mk (by simp only [execOp,hx,hy,py,ab h0,h1,af]) h2
  ·exact .mk (by simp only [execOp,hx,hy,py,af]) h
  ·exact .mk (by simp only [execOp,hx,hy,py,af]) h
  ·exact h.elim
 ·exact h.elim
theorem aa1{n:Option Nat}{x:ba}{a:AT}{k:KW}(h:ldW E st n (st.ev x) a k):Told (.ld n x) k G Ω E st d:=by
 unfold ldW at h
 split at h
 ·rename_i kk off hx
  obtain ⟨cs,r,h1,h2⟩:=xz h
  split at h2
  ·rename_i t es hp
   exact .mk (by simp only [execOp,hx,h1,hp,af]) h2
  ·rename_i y hy hp
   obtain ⟨h3,h4⟩:=cU h2
   refine .mk (x:=y) (st':=st) ?_ h4
   simp only [execOp,hx,h1,hp,af,ab h3]
  ·exact h2.elim
 ·rename_i y off hx
  split at h
  ·rename_i z hp
   exact .mk (by simp only [execOp,hx,hp,af]) h
  ·exact h.elim
 ·rename_i pl i sz off hx
  obtain ⟨t,es,r,h1,h2⟩:=iq h
  obtain ⟨e,r',h3,h4,h5⟩:=xK h2
  split at h5
  ·rename_i z hp
   exact .mk (by simp only [execOp,hx,h1,h3,hp,h4,aq,af]) h5
  ·exact h5.elim
 ·exact h.elim
theorem aa2{n:Nat}{x y:ba}{a:AT}{k:KW}(h:stW E st n (st.ev x) (st.ev y) y a k):Told (.st n x y) k G Ω E st d:=by
 unfold stW at h
 split at h
 ·rename_i kk off hx
  obtain ⟨hro,h⟩:=h
  obtain ⟨cs,r,h1,h2⟩:=xz h
  split at h2
  ·rename_i t es hy
   split at h2
   ·rename_i m
    obtain ⟨h3,h4⟩:=cU h2
    obtain ⟨r',h5⟩:=qY h4
    exact .mk (by simp only [execOp,hx,Pg hro _,aq,h1,hy,af,ab h3]) h5
   ·exact h2.elim
  ·rename_i pl lo len hy
   obtain ⟨rfl,h2⟩:=h2
   obtain ⟨h3,h4⟩:=cU h2
   obtain ⟨t,es,r1,h5,h6⟩:=iq h4
   obtain ⟨es',r2,h7,rfl,h9⟩:=nU h6
   obtain ⟨r',h10⟩:=qY h9
   simp only [aA] at h3
   exact .mk (by simp only [execOp,hx,Pg hro _,aq,h1,hy,af,h3.1,h3.2,gu,oq,jr,h5,ab h7,true_and,and_self]) h10
  ·rename_i y' hy1 hy2
   obtain ⟨h0,h2⟩:=h2
   obtain ⟨h3,h4⟩:=cU h2
   obtain ⟨r',h5⟩:=qY h4
   have h6:((st.ev y).copy&&(st.ev y).nc==n&&(st.ev y).cl.all AV.one&&(st.ev y).deep kk.dp&&decide (off+n≤cs.length))=true:=by
    simp only [aA] at h3 ⊢
    exact ⟨⟨h3.1,h0⟩,h3.2⟩
   refine .mk (x:=.u) (st':=st.aK E.dp kk (putCells cs off (st.ev y).cl)) ?_ h5
   simp only [execOp,hx,Pg hro _,aq,h1,af,ab h6]
 ·rename_i pl i sz off hx
  obtain ⟨hro,h⟩:=h
  obtain ⟨t,es,r,h1,h2⟩:=iq h
  obtain ⟨e,r1,h3,h4⟩:=Ah h2
  obtain ⟨h5,h6⟩:=cU h4
  obtain ⟨es',r2,rfl,h8⟩:=nU h6
  obtain ⟨st',r3,h9,h10⟩:=CU h8
  exact .mk (by simp only [execOp,hx,xA hro,aq,h1,h3,af,ab h5,h9]) h10
 ·exact h.elim
theorem xC{x:Option ba}{dflt:Nat}{a:AT}{k:Nat→AT→Prop}(h:Fa (x.map st.ev) dflt a k):∃ j r,oB st x dflt=some j∧k j r:=by
 cases x with
 | none=>exact ⟨dflt,a,rfl,h⟩
 | some y=>
  obtain ⟨j,r,h1,h2⟩:=Il (x:=st.ev y) h
  exact ⟨j,r,h1,h2⟩
theorem aa3{t sz:Nat}{x:ba}{lo hi:Option ba}{a:AT}{k:KW}(h:slW E st t sz (st.ev x) (lo.map st.ev) (hi.map st.ev) a k):Told (.sl t sz x lo hi) k G Ω E st d:=by
 unfold slW at h
 split at h
 ·rename_i l hx
  obtain ⟨i,r1,h1,h2⟩:=xC h
  obtain ⟨j,r2,h3,h4⟩:=xC h2
  obtain ⟨z,r3,rfl,h5,h6,rfl,h8⟩:=QT h4
  exact .mk (by simp [execOp,hx,h1,h3,h5,h6]) h8
 ·rename_i t' es hx
  obtain ⟨i,r1,h1,h2⟩:=xC h
  obtain ⟨j,r2,h3,h4⟩:=xC h2
  obtain ⟨z,r3,h0,hall,h5,h6,rfl,h8⟩:=nU h4
  exact .mk (by simp only [execOp,hx,h1,h3,af,hall,qj,ne_eq,h0,ot,h5,h6,oq,tA,gu,aq]) h8
 ·rename_i pl hx
  obtain ⟨t',es,r0,hr,h⟩:=iq h
  obtain ⟨i,r1,h1,h2⟩:=xC h
  obtain ⟨j,r2,h3,h4⟩:=xC h2
  obtain ⟨m,r3,h5⟩:=QS h4
  obtain ⟨h6,h7,h8,rfl,h10⟩:=cU h5
  exact .mk (by simp only [execOp,hx,hr,h1,h3,af,h6,h7,h8,oq,gu,aq]) h10
 ·exact h.elim
theorem Nf{t:TypeId}{x:ba}{a:AT}{k:List AV→St→AT→Prop}(h:Fb E st t x a k):∃ es st' r,consume E st t x=some (es,st')∧k es st' r:=by
 unfold Fb at h
 split at h
 ·exact ⟨_,_,a,rfl,h⟩
 ·exact h.elim
 ·rename_i m
  split at h
  ·rename_i hx
   exact ⟨_,_,a,by simp only [consume,hx],h⟩
  ·rename_i t' es hx
   obtain ⟨h1,h2⟩:=cU h
   exact ⟨_,_,a,by simp only [consume,hx,ab (cS.1 h1)],h2⟩
  ·rename_i pl hx
   obtain ⟨hro,h⟩:=h
   obtain ⟨t',es,r,h1,h2⟩:=iq h
   obtain ⟨h3,h4⟩:=cU h2
   obtain ⟨st',r',h5,h6⟩:=CU h4
   exact ⟨_,_,r',by simp only [consume,hx,NZ hro,aq,h1,af,ab (cS.1 h3),h5],h6⟩
  ·rename_i pl lo len hx
   obtain ⟨hro,h⟩:=h
   obtain ⟨h0,h⟩:=cU h
   obtain ⟨t',es,r,h1,h2⟩:=iq h
   obtain ⟨es',r2,h3,h4,rfl,h6⟩:=nU h2
   obtain ⟨st',r',h7,h8⟩:=CU h6
   exact ⟨_,_,r',by simp only [consume,hx,NZ hro,h0,gu,aq,h1,af,ab (And.intro h3 h4),h7],h8⟩
  ·exact h.elim
theorem aa4{sz:Nat}{arr:Option Nat}{x i:ba}{j:Nat}{a:AT}{k:KW}(hj:qV (st.ev i)=some j)(h:iaW E st sz arr (st.ev x) x j a k):Told (.ia sz arr x i) k G Ω E st d:=by
 unfold iaW at h
 split at h
 ·rename_i len
  obtain ⟨h1,h⟩:=h
  split at h
  ·rename_i kk o hx
   exact .mk (by simp only [execOp,hj,af,ab h1,hx]) h
  ·rename_i y o hx
   exact .mk (by simp only [execOp,hj,af,ab h1,hx]) h
  ·exact h.elim
 ·split at h
  ·rename_i t es hx
   obtain ⟨e,r,h1,h2,h3⟩:=xK h
   exact .mk (by simp only [execOp,hj,af,hx];exact zl h1 h2) h3
  ·rename_i t es hx
   split at h
   ·rename_i m
    obtain ⟨e,r,h1,h2,h3⟩:=xK h
    exact .mk (by simp only [execOp,hj,af,hx];exact zl h1 h2) h3
   ·exact h.elim
  ·rename_i pl hx
   obtain ⟨t,es,r0,h0,h⟩:=iq h
   obtain ⟨e,r,h1,h2,h3⟩:=xK h
   exact .mk (by simp only [execOp,hj,af,hx,h0];exact zl h1 h2) h3
  ·rename_i pl lo len hx
   obtain ⟨t,es,r0,h0,h4,h5,h⟩:=iq h
   obtain ⟨e,r,h1,h2,h3⟩:=xK h
   exact .mk (by simp only [execOp,hj,af,hx,ab h4,h0,ab h5];exact zl h1 h2) h3
  ·exact h.elim
theorem Lj{m:Nat}{f:FuncId}{args:List AV}{a:AT}{k:KW}(h:QU G Ω E st m f args a k):∃ x r,aU (call G Ω) Ω E st m f args=some (x,st)∧k x st r:=by
 unfold QU at h
 split at h
 ·obtain ⟨ys,ts,r,h1,h2⟩:=sX h
  obtain ⟨x,r1,h3,h4⟩:=Ah h2
  have h5:∃ b,(x.pure&&(ts.isEmpty||x.off ts))=true∧b=r1∧k x st b:=by
   split at h4
   ·obtain ⟨h5,h6⟩:=cU h4
    exact ⟨r1,by simp [h5],rfl,h6⟩
   ·exact ⟨r1,by simp [h4.1,h4.2.1],rfl,h4.2.2⟩
  obtain ⟨b,h6,rfl,h7⟩:=h5
  exact ⟨x,b,by simp only [aU,h1,af,h3,h6,aq],h7⟩
 ·obtain ⟨ys,ts,r,h1,h2⟩:=sX h
  obtain ⟨x,r1,h3,h4⟩:=Ah h2
  have h5:∃ b,(x.pure&&(ts.isEmpty||x.off ts))=true∧b=r1∧k x st b:=by
   split at h4
   ·obtain ⟨h5,h6⟩:=cU h4
    exact ⟨r1,by simp [h5],rfl,h6⟩
   ·exact ⟨r1,by simp [h4.1,h4.2.1],rfl,h4.2.2⟩
  obtain ⟨b,h6,rfl,h7⟩:=h5
  exact ⟨x,b,by simp only [aU,h1,af,h3,h6,aq],h7⟩
 ·exact h.elim
theorem Lk{f:FuncId}{args:List AV}{a:AT}{k:KW}(h:QV G Ω E st f args a k):∃ x st' r,dH (call G Ω) Ω E st f args=some (x,st')∧k x st' r:=by
 unfold QV at h
 split at h
 ·rename_i hc
  obtain ⟨x,r,h1,h2⟩:=Lj h
  exact ⟨x,st,r,by rw [dH,ab hc];exact h1,h2⟩
 ·rename_i hc
  obtain ⟨h1,h2,h⟩:=h
  obtain ⟨h3,h⟩:=cU h
  obtain ⟨x,r1,h⟩:=Ah h
  obtain ⟨hp2,r2,h⟩:=Ai h
  obtain ⟨bx,r3,h⟩:=NY h
  obtain ⟨hp3,r4,h4,rfl,rfl,h5⟩:=Ai h
  refine ⟨x,st.back E.dp hp2,r4,?_,h5⟩
  rw [dH,ad (by rw [hc];simp)]
  simp only [h1,h2,h3,yJ,gu,aq,h4,af]
theorem QW{f:FuncId}{args:List AV}{a:AT}{k:KW}(h:c3W G Ω E st f args a k):∃ x r,jx (call G Ω) E st f args=some (x,st)∧k x st r:=by
 obtain ⟨h1,h⟩:=h
 obtain ⟨h2,h⟩:=cU h
 obtain ⟨x,r1,h⟩:=Ah h
 obtain ⟨hp2,r2,h3,h⟩:=Ai h
 obtain ⟨h4,h5⟩:=cU h
 exact ⟨x,r2,by simp only [jx,h1,h2,gu,aq,h3,af,h4],h5⟩
theorem Ll{o:oV}{a:AT}{k:KW}(h:oX G Ω E st d a o k):Told o k G Ω E st d:=by
 cases o with
 | mv x=>
  simp only [oX] at h
  split at h
  ·rename_i t es hx
   split at h
   ·exact .mk (by simp only [execOp,hx]) h
   ·exact h.elim
  ·rename_i hx
   refine .mk (x:=st.ev x) (st':=st) ?_ h
   simp only [execOp]
 | as x=>
  cases x with
  | c y=>
   obtain ⟨h1,h2⟩:=cU h
   exact .mk (by simp only [execOp,h1,aq]) h2
  | t n=>
   simp only [oX] at h
   split at h
   ·rename_i t es hx
    split at h
    ·exact .mk (by simp only [execOp,hx,af]) h
    ·exact h.elim
   ·rename_i pl lo len hx
    split at h
    ·rename_i dd
     obtain ⟨own,r,h⟩:=vV h
     cases own with
     | true=>
      obtain ⟨rfl,h⟩:=h
      obtain ⟨h1,h⟩:=cU h
      obtain ⟨t,es,r1,h2,h⟩:=iq h
      obtain ⟨es',r2,h3,rfl,h5⟩:=nU h
      exact .mk (by simp only [execOp,hx,af,h1,oq,gu,and_self,aq,h2,ab h3]) h5
     | false=>
      obtain ⟨h1,h2⟩:=h
      refine .mk (x:=.v pl lo len) (st':=st) ?_ h2
      simp only [execOp,hx,af]
      rw [ad]
      simp only [aA,df]
      rintro ⟨h3,h4⟩
      rw [h1 h3] at h4
      cases h4
    ·exact h.elim
   ·rename_i hx1 hx2
    obtain ⟨h1,h2⟩:=cU h
    refine .mk (x:=ax st.fr n) (st':=st) ?_ h2
    simp only [execOp,ab h1]
 | pk c x y=>
  simp only [oX] at h
  split at h
  ·rename_i z hc
   obtain ⟨w,r,rfl,h⟩:=vV h
   cases z with
   | true=>
    obtain ⟨h1,h2⟩:=cU h
    exact .mk (by simp only [execOp,hc,qu,af,aq,h1]) h2
   | false=>
    obtain ⟨h1,h2⟩:=cU h
    exact .mk (by simp only [execOp,hc,qu,af,bB,aM,h1,aq]) h2
  ·exact h.elim
 | bx x=>
  simp only [oX] at h
  split at h
  ·rename_i dd
   obtain ⟨h1,h⟩:=h
   obtain ⟨h2,h3⟩:=cU h
   simp only [aA] at h1 h2
   exact .mk (by simp only [execOp,af,h1.1,h1.2.1,h1.2.2,h2.1.1,h2.1.2,h2.2,gu,aq]) h3
  ·exact h.elim
 | al zs=>
  simp only [oX] at h
  split at h
  ·rename_i dd
   obtain ⟨h1,h⟩:=h
   obtain ⟨h2,h3⟩:=cU h
   simp only [aA] at h1
   exact .mk (by simp only [execOp,af,h1.1,h1.2,h2,gu,aq]) h3
  ·exact h.elim
 | ld n x=>exact aa1 h
 | st n x y=>exact aa2 h
 | fa off x=>
  simp only [oX] at h
  split at h
  ·rename_i hx;exact .mk (by simp only [execOp,hx]) h
  ·rename_i hx;exact .mk (by simp only [execOp,hx]) h
  ·rename_i hx
   obtain ⟨t,es,r,h1,h2,h3⟩:=iq h
   exact .mk (by simp only [execOp,hx,h1,af,ab h2]) h3
  ·exact h.elim
 | fd n off x=>
  simp only [oX] at h
  split at h
  ·rename_i cs hx
   split at h
   ·rename_i y hy
    exact .mk (by simp only [execOp,hx,hy,af]) h
   ·exact h.elim
  ·exact h.elim
 | ia sz arr x i=>
  obtain ⟨j,r,h1,h2⟩:=Il (x:=st.ev i) h
  exact aa4 h1 h2
 | bo op bl x y=>exact aa0 h
 | no x=>
  simp only [oX] at h
  split at h
  ·rename_i y hx
   exact .mk (by simp only [execOp,hx,qu,af]) h
  ·exact h.elim
 | ae ks ng x y=>
  simp only [oX] at h
  split at h
  ·rename_i hx hy
   obtain ⟨r,a',h1,h2⟩:=vV h
   exact .mk (by simp only [execOp,hx,hy,h1,af]) h2
  ·exact h.elim
 | bs t sz es=>
  simp only [oX] at h
  split at h
  ·obtain ⟨h1,h2⟩:=cU h
   obtain ⟨vs,r,rfl,h3⟩:=nU h2
   exact .mk (by simp only [execOp,af,h1,aq]) h3
  ·exact h.elim
 | bd zs fs=>
  obtain ⟨h1,h2⟩:=cU h
  exact .mk (by simp only [execOp,h1,aq]) h2
 | ms t sz by_ x n=>
  simp only [oX] at h
  split at h
  ·obtain ⟨m,r,h1,h2⟩:=Il h
   obtain ⟨es,r2,h3,h4,rfl,h6⟩:=nU h2
   exact .mk (by simp only [execOp,af,h1,h3,h4,oq,gu,aq]) h6
  ·exact h.elim
 | sl t sz x lo hi=>exact aa3 h
 | ex x i=>
  simp only [oX] at h
  split at h
  ·rename_i vs hx
   split at h
   ·rename_i y hy
    exact .mk (by simp only [execOp,hx,hy,af]) h
   ·exact h.elim
  ·exact h.elim
 | mf f caps=>
  obtain ⟨h1,h2⟩:=cU h
  exact .mk (by simp only [execOp,h1,aq]) h2
 | ca m f args=>
  obtain ⟨x,r,h1,h2⟩:=Lj h
  exact .mk h1 h2
 | cf m x args=>
  simp only [oX] at h
  split at h
  ·rename_i f caps hx
   obtain ⟨hg,h⟩:=cU h
   obtain ⟨x,r,h1,h2⟩:=Lj h
   exact .mk (by simp only [execOp,hx,ab (nj hg)];exact h1) h2
  ·exact h.elim
 | c2 f args=>
  obtain ⟨x,st',r,h1,h2⟩:=Lk h
  exact .mk h1 h2
 | d2 x args=>
  simp only [oX] at h
  split at h
  ·rename_i f caps hx
   split at h
   ·rename_i hg
    obtain ⟨x,st',r,h1,h2⟩:=Lk h
    exact .mk (by simp only [execOp,hx,ab (nj hg)];exact h1) h2
   ·rename_i hg
    obtain ⟨x,st',r,h1,h2⟩:=Lk h
    exact .mk (by simp only [execOp,hx,ad (yK hg)];exact h1) h2
  ·exact h.elim
 | c3 f args=>
  obtain ⟨x,r,h1,h2⟩:=QW h
  exact .mk h1 h2
 | d3 x args=>
  simp only [oX] at h
  split at h
  ·rename_i f caps hx
   obtain ⟨hg,h⟩:=cU h
   obtain ⟨x,r,h1,h2⟩:=QW h
   exact .mk (by simp only [execOp,hx,ab (nj hg)];exact h1) h2
  ·exact h.elim
 | cn f args=>
  simp only [oX] at h
  split at h
  ·rename_i dd
   obtain ⟨h1,h2,h⟩:=h
   obtain ⟨h3,h⟩:=cU h
   obtain ⟨cs,r1,h⟩:=nU h
   obtain ⟨hp2,r2,h⟩:=Ai h
   obtain ⟨bx,r3,h⟩:=NY h
   obtain ⟨hp3,r4,h4,rfl,rfl,h5,h6⟩:=Ai h
   refine .mk (x:=.p ⟨E.dp,dd⟩ 0) (st':={(st.back E.dp hp2) with bx:=(dd,cs)::(st.back E.dp hp2).bx}) ?_ h6
   have h5':Gn E.dp (st.back E.dp hp2) dd=true:=h5
   simp only [execOp,af,Ae,h1,h2,h3,yJ,gu,aq,h4,h5']
  ·exact h.elim
 | cm t f args x=>exact (by simp only [oX] at h)
 | cr t f args=>
  simp only [oX] at h
  split at h
  ·rename_i dd
   obtain ⟨h1,h2,h3⟩:=cU h
   exact .mk (by simp only [execOp,af,Ie,h1,aq,h2]) h3
  ·exact h.elim
 | ln str x=>
  simp only [oX] at h
  split at h
  ·rename_i l hx
   obtain ⟨h1,h2⟩:=cU h
   obtain ⟨n,r,h3,h4⟩:=vW h2
   exact .mk (by simp only [execOp,hx,h1,aq,h3]) h4
  ·rename_i hx
   obtain ⟨h1,h2⟩:=cU h
   obtain ⟨t,es,r,h3,h4⟩:=Jz h2
   obtain ⟨n,r,h5,h6⟩:=vW h4
   have hs:str=false:=by simpa using h1
   refine .mk (x:=.i .i64 n) (st':=st) ?_ h6
   have hsp:∀ kk o m s,st.ev x≠.sp kk o m s:=fun kk o m s e=>by rw [e] at h3;cases h3
   simp only [execOp,hs,bB,aM]
   simp only [h3,af,h5]
 | ap t sz by_ x y=>
  simp only [oX] at h
  split at h
  ·obtain ⟨t',ys,r,h1,h2⟩:=Jz h
   obtain ⟨es,st',r2,h3,h4⟩:=Nf h2
   obtain ⟨z,r3,h5,h6,h7,rfl,h9⟩:=nU h4
   exact .mk (by simp only [execOp,af,h1,h3,h5,h6,h7,oq,gu,aq]) h9
  ·exact h.elim
 | nc x=>
  simp only [oX] at h
  split at h
  ·rename_i hx;exact .mk (by simp only [execOp,hx]) h
  ·rename_i hx;exact .mk (by simp only [execOp,hx]) h
  ·rename_i hx;exact .mk (by simp only [execOp,hx]) h
  ·exact h.elim
end
section
variable (G:qv)(Ω:du)(E:Env)
abbrev KS:=St→AT→Prop
noncomputable def gW(st:St)(g:cN)(a:AT)(q:KS):Prop:=
 match g.g with
 | none=>oX G Ω E st g.d a g.o fun x st' a=>q (put st' g.d (eN g.fz x)) a
 | some (j,want)=>match ax st.fr j with
  | .b x=>GG a fun y a=>(x==want)=y∧(match y with
   | true=>oX G Ω E st g.d a g.o fun x st' a=>q (put st' g.d (eN g.fz x)) a
   | false=>q (put st g.d .sk) a)
  | .sk=>q (put st g.d .sk) a
  | _=>False
def Fc(dp:Nat)(p:cp)(v:St)(q:Prop):Prop:=
 match p.p.o with
 | .st _ x y=>(match uE (v.ev y) with
  | false=>q
  | true=>match v.ev x with
   | .p k _=>k.dp=dp∧ja (p.vb==[k.d]&&(match y with
    | .t m=>p.cs==[m]
    | .c _=>false)) q
   | _=>False)
 | .ap _ _ _ x _=>ja (Ih (v.ev x)==(p.cs.length==2)) q
 | _=>q
theorem Ng{dp:Nat}{p:cp}{v:St}{q:Prop}(h:Fc dp p v q):eG dp p v=true∧q:=by
 unfold Fc at h
 unfold eG
 split at h
 ·rename_i n x y ho
  simp only [ho]
  split at h
  ·rename_i hy
   exact ⟨by rw [hy];rfl,h⟩
  ·rename_i hy
   split at h
   ·rename_i k off hx
    obtain ⟨h1,h2⟩:=h
    obtain ⟨h3,h4⟩:=cU h2
    refine ⟨?_,h4⟩
    rw [hy,hx]
    simp only [aA] at h3
    simp only [h1,oq,h3.1,ou,js,jr]
    exact h3.2
   ·exact h.elim
 ·rename_i ho
  simp only [ho]
  exact cU h
 ·rename_i hne hna
  refine ⟨?_,h⟩
  split
  ·rename_i n x y ho
   exact (hne _ _ _ ho).elim
  ·rename_i ho
   exact (hna _ _ _ _ _ ho).elim
  ·rfl
noncomputable def Ph(st:St)(p:cp)(a:AT)(q:KS):Prop:=
 ja (lE (view p st) p.p.o) (Fc E.dp p (view p st) (oX G Ω E (view p st) p.p.d a p.p.o fun x v' a=>(jK E.dp p.nk x&&okB E.dp p.nb x)=true∧q ((effect p (x,v')).app st) a))
noncomputable def dW(st:St)(p:cp)(a:AT)(q:KS):Prop:=
 match p.lt with
 | true=>match p.p.g with
  | none=>Ph G Ω E st p a q
  | some (j,want)=>match ax st.fr j with
   | .b x=>GG a fun y a=>(x==want)=y∧(match y with
    | true=>Ph G Ω E st p a q
    | false=>q ((⟨iL p.p.d .sk,[],[],none⟩:cj).app st) a)
   | .sk=>q ((⟨iL p.p.d .sk,[],[],none⟩:cj).app st) a
   | _=>False
 | false=>gW G Ω E st p.p a q
noncomputable def rY(kf kb:List Nat)(gs:List cN)(st:St):Option St:=(fQ (call G Ω) Ω E st gs).map fun s=>s.aP kf kb
noncomputable def Im(kf kb:List Nat)(gs:List cp)(st:St):Option St:=(kd (call G Ω) Ω E st gs).map fun s=>s.aP kf kb
def aa5(d:Option Nat)(m n:Nat)(d':Option Nat):Bool:=(match d,d' with
 | some x,some y=>x==y
 | none,none=>true
 | _,_=>false)&&m==n
noncomputable def CV(kf kb:List Nat):St→List cN→AT→KS→Prop
 | st,[],a,q=>q (st.aP kf kb) a
 | st,g::gs,a,q=>match a with
  | .jb d n b=>(match aa5 g.d gs.length n d with
   | true=>jj b fun b=>match b with
    | .co (.jn X) r=>rY G Ω E kf kb (g::gs) st=some X∧q X r
    | _=>False
   | false=>gW G Ω E st g (.jb d n b) fun st a=>CV kf kb st gs a q)
  | a=>gW G Ω E st g a fun st a=>CV kf kb st gs a q
noncomputable def CW(kf kb:List Nat):St→List cp→AT→KS→Prop
 | st,[],a,q=>q (st.aP kf kb) a
 | st,p::ps,a,q=>match a with
  | .jb d n b=>(match aa5 p.p.d ps.length n d with
   | true=>jj b fun b=>match b with
    | .co (.jn X) r=>Im G Ω E kf kb (p::ps) st=some X∧q X r
    | _=>False
   | false=>dW G Ω E st p (.jb d n b) fun st a=>CW kf kb st ps a q)
  | a=>dW G Ω E st p a fun st a=>CW kf kb st ps a q
def xk(st:St)(p:uD)(a:AT)(q:KS):Prop:=
 match p with
 | .own d t=>match ax st.fr d with
  | .n=>q ((st.aZ (.s d)).cV d (.o t [])) a
  | .o _ _=>q st a
  | _=>False
 | .fz d=>match ax st.fr d with
  | .o t es=>q (st.cV d (.l t es)) a
  | _=>False
 | .ownC d off t=>match ax st.fr d with
  | .p k o=>E.ro=false∧(E9 E st k a fun cs a=>match cs[o+off]? with
   | some .n=>uP E (st.aZ (.c k (o+off))) k (cs.set (o+off) (.o t [])) a q
   | some (.o _ _)=>q st a
   | _=>False)
  | _=>False
 | .fzC d off=>match ax st.fr d with
  | .p k o=>E.ro=false∧(E9 E st k a fun cs a=>match cs[o+off]? with
   | some (.o t es)=>uP E st k (cs.set (o+off) (.l t es)) a q
   | _=>False)
  | _=>False
 | .fzB d agg=>match ax st.fr d with
  | .p k 0=>k.dp=E.dp∧(match aO st.bx k.d with
   | some cs=>ja (AV.bk cs) (match agg with
    | true=>q {(st.cV d (.e (.a cs) 0)) with bx:=st.bx.filter fun y=>y.1 !=k.d} a
    | false=>match cs with
     | [c]=>q {(st.cV d (.e c 0)) with bx:=st.bx.filter fun y=>y.1 !=k.d} a
     | _=>False)
   | none=>False)
  | _=>False
 | .pF d off nd sz=>match gj E st (.pF d off nd sz) with
  | some st'=>q st' a
  | none=>False
 | .unp d off=>match gj E st (.unp d off) with
  | some st'=>q st' a
  | none=>False
def Pj:St→List uD→AT→KS→Prop
 | st,[],a,q=>q st a
 | st,p::ps,a,q=>xk E st p a fun st a=>Pj st ps a q
abbrev KX:=aI→St→AT→Prop
noncomputable def cW:AC→St→AT→KX→Prop
 | .sk,st,a,q=>q .nrm st a
 | .rg pre ops kf kb,st,a,q=>Pj E st pre a fun st a=>CV G Ω E kf kb st ops a fun st a=>q .nrm st a
 | .dg pre mks ops kf kb,st,a,q=>Pj E st pre a fun st a=>(mks.all (sn E.dp st)&&ops.all (jf E.dp st))=true∧(CW G Ω E kf kb st ops a fun st a=>q .nrm st a)
 | .sq x y,st,a,q=>cW x st a fun e st a=>match e with
  | .nrm=>cW y st a q
  | e=>q e st a
 | .ite c x y,st,a,q=>match st.ev c with
  | .b z=>GG a fun w a=>z=w∧(match w with
   | true=>cW x st a q
   | false=>cW y st a q)
  | _=>False
 | .bl id x,st,a,q=>cW x st a fun e st a=>match e with
  | .ex id'=>if id'=id then q .nrm st a else q (.ex id') st a
  | e=>q e st a
 | .lp (.kp kf kb x),st,a,q=>Pf a fun e st' a=>run G Ω E (.lp (.kp kf kb x)) (st.aP kf kb)=some (e,st')∧q e st' a
 | .lp x,st,a,q=>Pf a fun e st' a=>run G Ω E (.lp x) st=some (e,st')∧q e st' a
 | .ex id,st,a,q=>q (.ex id) st a
 | .rt,st,a,q=>q .ret st a
 | .bad,_,_,_=>False
 | .ru g x y b,st,a,q=>Pf a fun e st' a=>run G Ω E (.ru g x y b) st=some (e,st')∧q e st' a
 | .kp kf kb x,st,a,q=>match a with
  | .fb b=>jj b fun b=>match b with
   | .co (.fr e st') r=>run G Ω E x (st.aP kf kb)=some (e,st')∧q e st' r
   | _=>False
  | _=>cW x (st.aP kf kb) a q
def GJ(st:St)(x:AV)(a:AT)(q:AV→AT→Prop):Prop:=
 match x with
 | .o t es=>q (.l t es) a
 | .r (.s d)=>oD E st (.s d) a fun t es a=>q (.l t es) a
 | .r (.c k off)=>k.dp=E.dp∧(oD E st (.c k off) a fun t es a=>q (.l t es) a)
 | .v (.s d) lo len=>oD E st (.s d) a fun t es a=>zk a fun es' a=>lo+len≤es.length∧(es.drop lo).take len=es'∧q (.l t es') a
 | .v (.c _ _) _ _=>False
 | .q _ _ _ _=>False
 | .w _ _ _=>False
 | .ag _ _=>False
 | .bp _ _ _=>False
 | x=>q x a
def Pk(st:St):List AV→AT→(List AV→AT→Prop)→Prop
 | [],a,q=>q [] a
 | x::xs,a,q=>GJ E st x a fun y a=>Pk st xs a fun ys a=>q (y::ys) a
def Pm(st:St)(z:RV)(a:AT)(q:AV→AT→Prop):Prop:=
 match z with
 | .t n=>GJ E st (ax st.fr n) a q
 | .r _=>False
 | .c n sz=>match ax st.fr n with
  | .p k off=>k.dp=E.dp∧(match aO st.bx k.d with
   | some cs=>match pick sz off cs with
    | some (.a ds)=>Pk E st ds a fun ds a=>q (.a ds) a
    | some y=>GJ E st y a q
    | none=>False
   | none=>False)
  | _=>False
def Tj(st:St):List RV→AT→(List AV→Prop)→Prop
 | [],_,q=>q []
 | z::zs,a,q=>Pm E st z a fun y a=>Tj st zs a fun ys=>q (y::ys)
noncomputable def Lm(fn:bE)(ys:List AV)(hp:HP)(a:AT)(q:List AV→HP→Prop):Prop:=
 cW G Ω E fn.code ⟨jL 0 ys,[],hp⟩ a fun e st _=>match e with
  | .ex _=>False
  | _=>match fn.res with
   | [.t n]=>match ax st.fr n with
    | .p k 0=>k.dp=E.dp∧(match aO st.bx k.d with
     | some cs=>(cs.all xy)=true∧q cs st.hp
     | none=>False)
    | _=>False
   | _=>False
noncomputable def Pn(fn:bE)(ys:List AV)(hp:HP)(a:AT)(q:AV→HP→Prop):Prop:=
 cW G Ω E fn.code ⟨jL 0 ys,[],hp⟩ a fun e st a=>match e with
  | .ex _=>False
  | _=>Tj E st fn.res a fun xs=>ja (AV.bk xs) (q (NU xs) st.hp)
end
section
variable {G:qv}{Ω:du}{E:Env}
theorem VD{st:St}{g:cN}{a:AT}{q:KS}(h:gW G Ω E st g a q):∃ st' r,ic (call G Ω) Ω E st g=some st'∧q st' r:=by
 unfold gW at h
 split at h
 ·rename_i hg
  obtain ⟨x,st',r,h1,h2⟩:=Ll h
  exact ⟨_,r,by simp only [ic,hg,h1,af],h2⟩
 ·rename_i j want hg
  split at h
  ·rename_i x hx
   obtain ⟨y,r,rfl,h⟩:=vV h
   split at h
   ·rename_i hy
    obtain ⟨x',st',r,h1,h2⟩:=Ll h
    exact ⟨_,r,by simp only [ic,hg,hx,vS,af,hy,aq,h1],h2⟩
   ·rename_i hy
    exact ⟨_,r,by simp only [ic,hg,hx,vS,af,hy,bB,aM],h⟩
  ·rename_i hx
   exact ⟨_,a,by simp only [ic,hg,hx,vS,af,bB,aM],h⟩
  ·exact h.elim
theorem Ln{st:St}{p:cp}{a:AT}{q:KS}(h:Ph G Ω E st p a q):∃ P r,je (call G Ω) Ω E p (view p st)=some P∧q (P.app st) r:=by
 obtain ⟨h0,h⟩:=cU h
 obtain ⟨h1,h⟩:=Ng h
 obtain ⟨x,st',r,h2,h3,h4⟩:=Ll h
 exact ⟨_,r,by simp only [je,h0,h1,gu,aq,h2,af,h3],h4⟩
theorem ahn{st:St}{p:cp}{a:AT}{q:KS}(h:dW G Ω E st p a q):∃ st' r,ej (call G Ω) Ω E st p=some st'∧q st' r:=by
 unfold dW at h
 split at h
 ·rename_i hlt
  split at h
  ·rename_i hg
   obtain ⟨P,r,h1,h2⟩:=Ln h
   exact ⟨_,r,by simp only [ej,hlt,aq,ei,hg,h1,af],h2⟩
  ·rename_i j want hg
   split at h
   ·rename_i x hx
    obtain ⟨y,r,rfl,h⟩:=vV h
    split at h
    ·rename_i hy
     obtain ⟨P,r,h1,h2⟩:=Ln h
     exact ⟨_,r,by simp only [ej,hlt,aq,ei,hg,hx,vS,hy,h1,af],h2⟩
    ·rename_i hy
     exact ⟨_,r,by simp only [ej,hlt,aq,ei,hg,hx,vS,hy,af,bB,aM],h⟩
   ·rename_i hx
    exact ⟨_,a,by simp only [ej,hlt,aq,ei,hg,hx,vS,af,bB,aM],h⟩
   ·exact h.elim
 ·rename_i hlt
  obtain ⟨st',r,h1,h2⟩:=VD h
  exact ⟨st',r,by simp only [ej,hlt,bB,aM,h1],h2⟩
theorem Io{kf kb:List Nat} : ∀ {gs:List cN}{st:St}{a:AT}{q:KS},CV G Ω E kf kb st gs a q→∃ st' r,rY G Ω E kf kb gs st=some st'∧q st' r
 | [],st,a,q,h=>⟨_,a,rfl,h⟩
 | g::gs,st,a,q,h=>by
  have key:∀ a',(gW G Ω E st g a' fun st a=>CV G Ω E kf kb st gs a q)→∃ st' r,rY G Ω E kf kb (g::gs) st=some st'∧q st' r:=by
   intro a' h
   obtain ⟨st1,r1,h1,h2⟩:=VD h
   obtain ⟨st2,r2,h3,h4⟩:=Io h2
   exact ⟨st2,r2,by simp only [rY,fQ,h1,af];exact h3,h4⟩
  unfold CV at h
  split at h
  ·split at h
   ·obtain ⟨b,h⟩:=fA h
    split at h
    ·exact ⟨_,_,h.1,h.2⟩
    ·exact h.elim
   ·exact key _ h
  ·exact key _ h
theorem Ip{kf kb:List Nat} : ∀ {gs:List cp}{st:St}{a:AT}{q:KS},CW G Ω E kf kb st gs a q→∃ st' r,Im G Ω E kf kb gs st=some st'∧q st' r
 | [],st,a,q,h=>⟨_,a,rfl,h⟩
 | g::gs,st,a,q,h=>by
  have key:∀ a',(dW G Ω E st g a' fun st a=>CW G Ω E kf kb st gs a q)→∃ st' r,Im G Ω E kf kb (g::gs) st=some st'∧q st' r:=by
   intro a' h
   obtain ⟨st1,r1,h1,h2⟩:=ahn h
   obtain ⟨st2,r2,h3,h4⟩:=Ip h2
   exact ⟨st2,r2,by simp only [Im,kd,h1,af];exact h3,h4⟩
  unfold CW at h
  split at h
  ·split at h
   ·obtain ⟨b,h⟩:=fA h
    split at h
    ·exact ⟨_,_,h.1,h.2⟩
    ·exact h.elim
   ·exact key _ h
  ·exact key _ h
theorem Tk{st:St}{p:uD}{a:AT}{q:KS}(h:xk E st p a q):∃ st' r,gj E st p=some st'∧q st' r:=by
 cases p with
 | own d t=>
  simp only [xk] at h
  split at h
  ·rename_i hx;exact ⟨_,a,by simp only [gj,hx],h⟩
  ·rename_i hx;exact ⟨_,a,by simp only [gj,hx],h⟩
  ·exact h.elim
 | fz d=>
  simp only [xk] at h
  split at h
  ·rename_i hx;exact ⟨_,a,by simp only [gj,hx],h⟩
  ·exact h.elim
 | ownC d off t=>
  simp only [xk] at h
  split at h
  ·rename_i k o hx
   obtain ⟨hro,h⟩:=h
   obtain ⟨cs,r,h1,h2⟩:=xz h
   split at h2
   ·rename_i hc
    obtain ⟨r',h3⟩:=qY h2
    exact ⟨_,r',by simp only [gj,hx,xA hro,aq,h1,af,hc],h3⟩
   ·rename_i hc
    exact ⟨_,r,by simp only [gj,hx,xA hro,aq,h1,af,hc],h2⟩
   ·exact h2.elim
  ·exact h.elim
 | fzC d off=>
  simp only [xk] at h
  split at h
  ·rename_i k o hx
   obtain ⟨hro,h⟩:=h
   obtain ⟨cs,r,h1,h2⟩:=xz h
   split at h2
   ·rename_i t es hc
    obtain ⟨r',h3⟩:=qY h2
    exact ⟨_,r',by simp only [gj,hx,xA hro,aq,h1,af,hc],h3⟩
   ·exact h2.elim
  ·exact h.elim
 | fzB d agg=>
  simp only [xk] at h
  split at h
  ·rename_i k hx
   obtain ⟨h1,h⟩:=h
   split at h
   ·rename_i cs hb
    obtain ⟨h2,h⟩:=cU h
    split at h
    ·exact ⟨_,a,by simp only [gj,hx,ab h1,hb,af,ab h2,aq],h⟩
    ·split at h
     ·exact ⟨_,a,by simp only [gj,hx,ab h1,hb,af,ab h2,bB,aM],h⟩
     ·exact h.elim
   ·exact h.elim
  ·exact h.elim
 | pF d off nd sz=>
  simp only [xk] at h
  split at h
  ·rename_i st' h1;exact ⟨st',a,h1,h⟩
  ·exact h.elim
 | unp d off=>
  simp only [xk] at h
  split at h
  ·rename_i st' h1;exact ⟨st',a,h1,h⟩
  ·exact h.elim
theorem Iq:∀ {ps:List uD}{st:St}{a:AT}{q:KS},Pj E st ps a q→∃ st' r,qW E st ps=some st'∧q st' r
 | [],st,a,q,h=>⟨st,a,rfl,h⟩
 | p::ps,st,a,q,h=>by
  obtain ⟨st1,r1,h1,h2⟩:=Tk h
  obtain ⟨st2,r2,h3,h4⟩:=Iq h2
  exact ⟨st2,r2,by simp only [qW,h1,af,h3],h4⟩
theorem vt:∀ (c:AC){st:St}{a:AT}{q:KX},cW G Ω E c st a q→∃ e st' r,run G Ω E c st=some (e,st')∧q e st' r
 | .sk,st,a,q,h=>⟨_,_,a,bM E st,by simpa only [cW] using h⟩
 | .rg pre ops kf kb,st,a,q,h=>by
  simp only [cW] at h
  obtain ⟨st1,r1,h1,h2⟩:=Iq h
  obtain ⟨st2,r2,h3,h4⟩:=Io h2
  obtain ⟨st3,h5,rfl⟩:=c9.1 h3
  exact ⟨_,_,r2,by rw [Af,h1,af,h5];rfl,h4⟩
 | .dg pre mks ops kf kb,st,a,q,h=>by
  simp only [cW] at h
  obtain ⟨st1,r1,h1,h0,h2⟩:=Iq h
  obtain ⟨st2,r2,h3,h4⟩:=Ip h2
  obtain ⟨st3,h5,rfl⟩:=c9.1 h3
  exact ⟨_,_,r2,by rw [Gu,h1,af,ab h0,h5];rfl,h4⟩
 | .sq x y,st,a,q,h=>by
  simp only [cW] at h
  obtain ⟨e,st1,r1,h1,h2⟩:=vt x h
  cases e with
  | nrm=>
   obtain ⟨e,st2,r2,h3,h4⟩:=vt y h2
   exact ⟨e,st2,r2,by rw [vU,h1];exact h3,h4⟩
  | ex id=>exact ⟨_,_,r1,by rw [vU,h1];rfl,h2⟩
  | ret=>exact ⟨_,_,r1,by rw [vU,h1];rfl,h2⟩
 | .ite c x y,st,a,q,h=>by
  simp only [cW] at h
  split at h
  ·rename_i z hc
   obtain ⟨w,r,rfl,h⟩:=vV h
   cases z with
   | true=>
    obtain ⟨e,st1,r1,h1,h2⟩:=vt x h
    exact ⟨e,st1,r1,by rw [run_ite,hc];exact h1,h2⟩
   | false=>
    obtain ⟨e,st1,r1,h1,h2⟩:=vt y h
    exact ⟨e,st1,r1,by rw [run_ite,hc];exact h1,h2⟩
  ·exact h.elim
 | .bl id x,st,a,q,h=>by
  simp only [cW] at h
  obtain ⟨e,st1,r1,h1,h2⟩:=vt x h
  cases e with
  | nrm=>exact ⟨_,_,r1,by rw [sr,h1];rfl,h2⟩
  | ret=>exact ⟨_,_,r1,by rw [sr,h1];rfl,h2⟩
  | ex id'=>
   simp only at h2
   split at h2
   ·rename_i hi
    exact ⟨_,_,r1,by rw [sr,h1];simp only [af,inBlock,hi,aq],h2⟩
   ·rename_i hi
    exact ⟨_,_,r1,by rw [sr,h1];simp only [af,inBlock,hi,aM],h2⟩
 | .lp x,st,a,q,h=>by
  cases x with
  | kp kf kb x=>
   simp only [cW] at h
   obtain ⟨e,st1,r1,h1,h2⟩:=Ik h
   refine ⟨e,st1,r1,?_,h2⟩
   exact (eg G Ω E ⟨kf,kb,x⟩ st).trans h1
  | _=>
   simp only [cW] at h
   obtain ⟨e,st1,r1,h1,h2⟩:=Ik h
   exact ⟨e,st1,r1,h1,h2⟩
 | .ex id,st,a,q,h=>⟨_,_,a,dN E st id,by simpa only [cW] using h⟩
 | .ru g x y b,st,a,q,h=>by
  simp only [cW] at h
  obtain ⟨e,st1,r1,h1,h2⟩:=Ik h
  exact ⟨e,st1,r1,h1,h2⟩
 | .rt,st,a,q,h=>⟨_,_,a,eE E st,by simpa only [cW] using h⟩
 | .kp kf kb x,st,a,q,h=>by
  unfold cW at h
  split at h
  ·obtain ⟨b,h⟩:=fA h
   split at h
   ·exact ⟨_,_,_,by rw [kN];exact h.1,h.2⟩
   ·exact h.elim
  ·obtain ⟨e,st1,r1,h1,h2⟩:=vt x h
   exact ⟨e,st1,r1,by rw [kN];exact h1,h2⟩
theorem Fe{st:St}{x:AV}{a:AT}{q:AV→AT→Prop}(h:GJ E st x a q):∃ y r,st.oC E.dp x=some y∧q y r:=by
 unfold GJ at h
 split at h
 ·exact ⟨_,a,rfl,h⟩
 ·obtain ⟨t,es,r,h1,h2⟩:=iq h
  exact ⟨_,r,by simp only [St.oC,h1,af],h2⟩
 ·obtain ⟨h0,h⟩:=h
  obtain ⟨t,es,r,h1,h2⟩:=iq h
  exact ⟨_,r,by simp only [St.oC,ab h0,h1,af],h2⟩
 ·obtain ⟨t,es,r,h1,h2⟩:=iq h
  obtain ⟨es',r,h3,rfl,h5⟩:=nU h2
  exact ⟨_,r,by simp only [St.oC,h1,af,ab h3],h5⟩
 ·exact h.elim
 ·exact h.elim
 ·exact h.elim
 ·exact h.elim
 ·exact h.elim
 ·rename_i h1 h2 h3 h4 h5 h6 h7 h8 h9
  refine ⟨x,a,?_,h⟩
  unfold St.oC
  split
  ·exact (h1 _ _ rfl).elim
  ·exact (h2 _ rfl).elim
  ·exact (h3 _ _ rfl).elim
  ·exact (h4 _ _ _ rfl).elim
  ·exact (h7 _ _ _ rfl).elim
  ·exact (h8 _ _ rfl).elim
  ·exact (h9 _ _ _ rfl).elim
  ·rfl
theorem Lo{st:St} : ∀ {xs:List AV}{a:AT}{q:List AV→AT→Prop},Pk E st xs a q→∃ ys r,st.Ii E.dp xs=some ys∧q ys r
 | [],a,q,h=>⟨[],a,rfl,h⟩
 | x::xs,a,q,h=>by
  obtain ⟨y,r,h1,h2⟩:=Fe h
  obtain ⟨ys,r2,h3,h4⟩:=Lo h2
  exact ⟨_,r2,by simp only [St.Ii,h1,h3,af],h4⟩
theorem Tl{st:St}{z:RV}{a:AT}{q:AV→AT→Prop}(h:Pm E st z a q):∃ y r,st.xF E z=some y∧q y r:=by
 cases z with
 | t n=>exact Fe h
 | r n=>exact h.elim
 | c n sz=>
  simp only [Pm] at h
  split at h
  ·rename_i k off hx
   obtain ⟨h0,h⟩:=h
   split at h
   ·rename_i cs hb
    split at h
    ·rename_i ds hp
     obtain ⟨ys,r,h1,h2⟩:=Lo h
     exact ⟨_,r,by simp only [St.xF,hx,ab h0,hb,hp,h1,af],h2⟩
    ·rename_i y hy hp
     obtain ⟨z,r,h1,h2⟩:=Fe h
     refine ⟨z,r,?_,h2⟩
     simp only [St.xF,hx,ab h0,hb,hp,af,h1]
    ·exact h.elim
   ·exact h.elim
  ·exact h.elim
theorem Ir{st:St} : ∀ {zs:List RV}{a:AT}{q:List AV→Prop},Tj E st zs a q→∃ xs,st.qw E zs=some xs∧q xs
 | [],a,q,h=>⟨[],rfl,h⟩
 | z::zs,a,q,h=>by
  obtain ⟨y,r,h1,h2⟩:=Tl h
  obtain ⟨ys,h3,h4⟩:=Ir h2
  exact ⟨_,by simp only [St.qw,h1,h3,af],h4⟩
theorem Tm{f:FuncId}{fn:bE}{ys:List AV}{hp:HP}{q:AV→HP→Prop}(hG:G f=some fn)(a:AT)(h:Pn G Ω E fn ys hp a q):∃ x hp',call G Ω E f ys hp=some (.ret x,hp')∧q x hp':=by
 obtain ⟨e,st,r,h1,h2⟩:=vt fn.code h
 cases e with
 | ex id=>exact h2.elim
 | nrm=>
  obtain ⟨xs,h3,h4⟩:=Ir h2
  obtain ⟨h5,h6⟩:=cU h4
  exact ⟨_,_,by rw [tK,hG,af,h1];simp only [af,St.end_,St.result,h3,h5,aq],h6⟩
 | ret=>
  obtain ⟨xs,h3,h4⟩:=Ir h2
  obtain ⟨h5,h6⟩:=cU h4
  exact ⟨_,_,by rw [tK,hG,af,h1];simp only [af,St.end_,St.result,h3,h5,aq],h6⟩
theorem aa6{st:St}{rs:List RV}{n:Nat}{k:Key}{cs:List AV}(h1:rs=[.t n])(h2:ax st.fr n= .p k 0)(h3:k.dp=E.dp)(h4:aO st.bx k.d=some cs)(h5:cs.all xy=true):st.end_ E rs=some (.new cs):=by
 subst h1
 have hr:st.result E [.t n]=none:=by simp [St.result,St.qw,St.xF,h2,St.oC,AV.bk,AV.pure]
 simp only [St.end_,hr,St.k9,h2,ab h3,h4,af,h5,aq,gv]
theorem QX{f:FuncId}{fn:bE}{ys:List AV}{hp:HP}{q:List AV→HP→Prop}(hG:G f=some fn)(a:AT)(h:Lm G Ω E fn ys hp a q):∃ cs hp',call G Ω E f ys hp=some (.new cs,hp')∧q cs hp':=by
 obtain ⟨e,st,r,h1,h2⟩:=vt fn.code h
 have key:∀ {P:Prop},(match fn.res with
   | [.t n]=>match ax st.fr n with
    | .p k 0=>k.dp=E.dp∧(match aO st.bx k.d with
     | some cs=>(cs.all xy)=true∧q cs st.hp
     | none=>False)
    | _=>False
   | _=>False)→(∀ cs,st.end_ E fn.res=some (.new cs)→q cs st.hp→P)→P:=by
  intro P h2 hP
  split at h2
  ·rename_i n hres
   split at h2
   ·rename_i k hk
    obtain ⟨h3,h4⟩:=h2
    split at h4
    ·rename_i cs hb
     exact hP cs (aa6 hres hk h3 hb h4.1) h4.2
    ·exact h4.elim
   ·exact h2.elim
  ·exact h2.elim
 cases e with
 | ex id=>exact h2.elim
 | nrm=>exact key h2 fun cs h3 h4=>⟨cs,_,by rw [tK,hG,af,h1];simp only [af,h3],h4⟩
 | ret=>exact key h2 fun cs h3 h4=>⟨cs,_,by rw [tK,hG,af,h1];simp only [af,h3],h4⟩
theorem aa7{R:Type}{f:FuncId}{fn:bE}{ys:List AV}{hp:HP}{Y:R→bm×HP}{r:R}{T:Prop}(hG:G f=some fn)(a:AT)(h:T)(he:T=Lm G Ω E fn ys hp a fun y h=>(bm.new y,h)=Y r):call G Ω E f ys hp=some (Y r):=by
 obtain ⟨y,h',h1,h2⟩:=QX hG a (he▸h)
 rw [←h2];exact h1
theorem aho{R:Type}{f:FuncId}{fn:bE}{ys:List AV}{hp:HP}{Y:R→bm×HP}{r:R}{T:Prop}(hG:G f=some fn)(a:AT)(h:T)(he:T=Pn G Ω E fn ys hp a fun y h=>(bm.ret y,h)=Y r):call G Ω E f ys hp=some (Y r):=by
 obtain ⟨y,h',h1,h2⟩:=Tm hG a (he▸h)
 rw [←h2];exact h1
theorem runT{R:Type}{c:AC}{st:St}{Y:R→aI×St}{r:R}{T:Prop}(a:AT)(h:T)(he:T=cW G Ω E c st a fun e s _=>(e,s)=Y r):run G Ω E c st=some (Y r):=by
 obtain ⟨e,s,_,h1,h2⟩:=vt c (he▸h)
 rw [←h2];exact h1
theorem ahp{R:Type}{kf kb:List Nat}{gs:List cN}{st:St}{Y:R→St}{r:R}{T:Prop}(a:AT)(h:T)(he:T=CV G Ω E kf kb st gs a fun s _=>s=Y r):rY G Ω E kf kb gs st=some (Y r):=by
 obtain ⟨s,_,h1,h2⟩:=Io (he▸h)
 rw [←h2];exact h1
theorem ahq{R:Type}{kf kb:List Nat}{gs:List cp}{st:St}{Y:R→St}{r:R}{T:Prop}(a:AT)(h:T)(he:T=CW G Ω E kf kb st gs a fun s _=>s=Y r):Im G Ω E kf kb gs st=some (Y r):=by
 obtain ⟨s,_,h1,h2⟩:=Ip (he▸h)
 rw [←h2];exact h1
def VE(kf kb:List Nat):aI→St→St⊕(aI×St)
 | .nrm,s=>.inl (s.aP kf kb)
 | e,s=>.inr (e,s)
theorem ai{a b:Prop}(x:a)(y:b):a∧b:=⟨x,y⟩
theorem tt:true=true:=rfl
theorem gf:(false==true)=false:=rfl
theorem ht:(true==false)=false:=rfl
theorem hf:(false==false)=true:=rfl
abbrev W(w:List AV)(n:Nat):AV:=w.getD n .u
abbrev bt(r:AT):AT:=.co (.b true) r
abbrev bf(r:AT):AT:=.co (.b false) r
abbrev ao(x:NX)(r:AT):AT:=.co x r
theorem ff:false=false:=rfl
end
end Go.Proofs.YtkkkkondjclcnaaGreat.A
