/- Paths: what is told of a run (which way it goes, what an element is, what a call answers) gives what must be shown, and nothing else; all else is reckoned. -/
import Derived.Test.YtkkkkondjclcnaaGreatAbs3
import Derived.KernelRfl
set_option linter.all false
namespace Go.Proofs.YtkkkkondjclcnaaGreat.A
open Go
inductive N4 where
 | b (x:Bool)
 | n (x:Nat)
 | i (x:Int)
 | v (x:AV)
 | l (es:List AV)
 | s (x:List UInt8)
 | h (hp:HP)
 | bx (bs:List (Nat×List AV))
 | lp (e:aH) (st:St)
 | fr (e:aH) (st:St)
 | jn (st:St)
inductive AT:Type 1 where
 | nil
 | no
 | co (x:N4) (r:AT)
 | or (a b:AT)
 | ex {α:Type} (f:α→AT)
 | jb (d:Option Nat) (n:Nat) (b:AT)
 | fb (b:AT)
def jg:AT→(AT→Prop)→Prop
 | .or a b,k=>jg a k∨jg b k
 | .ex f,k=>∃ x,jg (f x) k
 | .no,_=>False
 | a,k=>k a
theorem fp{k:AT→Prop} : ∀ {a:AT},jg a k→∃ b,k b
 | .or a b,h=>by
  rw [jg] at h
  rcases h with h | h
  ·exact fp h
  ·exact fp h
 | .ex f,h=>by
  rw [jg] at h
  obtain ⟨x,h⟩:=h
  exact fp h
 | .no,h=>h.elim
 | .nil,h=>⟨_,h⟩
 | .co _ _,h=>⟨_,h⟩
 | .jb _ _ _,h=>⟨_,h⟩
 | .fb _,h=>⟨_,h⟩
def JJ(a:AT)(k:Bool→AT→Prop):Prop:=jg a fun a=>match a with
 | .co (.b x) r=>k x r
 | _=>False
def tkN(a:AT)(k:Nat→AT→Prop):Prop:=jg a fun a=>match a with
 | .co (.n x) r=>k x r
 | _=>False
def GM(a:AT)(k:Int→AT→Prop):Prop:=jg a fun a=>match a with
 | .co (.i x) r=>k x r
 | _=>False
def Lr(a:AT)(k:AV→AT→Prop):Prop:=jg a fun a=>match a with
 | .co (.v x) r=>k x r
 | _=>False
def Ax(a:AT)(k:List AV→AT→Prop):Prop:=jg a fun a=>match a with
 | .co (.l x) r=>k x r
 | _=>False
def tkS(a:AT)(k:List UInt8→AT→Prop):Prop:=jg a fun a=>match a with
 | .co (.s x) r=>k x r
 | _=>False
def Q2(a:AT)(k:HP→AT→Prop):Prop:=jg a fun a=>match a with
 | .co (.h x) r=>k x r
 | _=>False
def aaA(a:AT)(k:List (Nat×List AV)→AT→Prop):Prop:=jg a fun a=>match a with
 | .co (.bx x) r=>k x r
 | _=>False
def Pn(a:AT)(k:aH→St→AT→Prop):Prop:=jg a fun a=>match a with
 | .co (.lp e st) r=>k e st r
 | _=>False
def jh(b:Bool)(p:Prop):Prop:=match b with
 | true=>p
 | false=>False
theorem xQ{a:AT}{k:Bool→AT→Prop}(h:JJ a k):∃ x r,k x r:=by
 obtain ⟨b,h⟩:=fp h
 split at h
 ·exact ⟨_,_,h⟩
 ·exact h.elim
theorem Q3{a:AT}{k:Nat→AT→Prop}(h:tkN a k):∃ x r,k x r:=by
 obtain ⟨b,h⟩:=fp h
 split at h
 ·exact ⟨_,_,h⟩
 ·exact h.elim
theorem vT{a:AT}{k:Int→AT→Prop}(h:GM a k):∃ x r,k x r:=by
 obtain ⟨b,h⟩:=fp h
 split at h
 ·exact ⟨_,_,h⟩
 ·exact h.elim
theorem Ay{a:AT}{k:AV→AT→Prop}(h:Lr a k):∃ x r,k x r:=by
 obtain ⟨b,h⟩:=fp h
 split at h
 ·exact ⟨_,_,h⟩
 ·exact h.elim
theorem oI{a:AT}{k:List AV→AT→Prop}(h:Ax a k):∃ x r,k x r:=by
 obtain ⟨b,h⟩:=fp h
 split at h
 ·exact ⟨_,_,h⟩
 ·exact h.elim
theorem Q4{a:AT}{k:List UInt8→AT→Prop}(h:tkS a k):∃ x r,k x r:=by
 obtain ⟨b,h⟩:=fp h
 split at h
 ·exact ⟨_,_,h⟩
 ·exact h.elim
theorem GN{a:AT}{k:HP→AT→Prop}(h:Q2 a k):∃ x r,k x r:=by
 obtain ⟨b,h⟩:=fp h
 split at h
 ·exact ⟨_,_,h⟩
 ·exact h.elim
theorem V3{a:AT}{k:List (Nat×List AV)→AT→Prop}(h:aaA a k):∃ x r,k x r:=by
 obtain ⟨b,h⟩:=fp h
 split at h
 ·exact ⟨_,_,h⟩
 ·exact h.elim
theorem It{a:AT}{k:aH→St→AT→Prop}(h:Pn a k):∃ e st r,k e st r:=by
 obtain ⟨b,h⟩:=fp h
 split at h
 ·exact ⟨_,_,_,h⟩
 ·exact h.elim
theorem cX{b:Bool}{p:Prop}(h:jh b p):b=true∧p:=by
 cases b with
 | true=>exact ⟨rfl,h⟩
 | false=>exact h.elim
def Ls(x:AV)(a:AT)(k:Nat→AT→Prop):Prop:=match x with
 | .i _ n=>tkN a fun j r=>n=(j:Int)∧k j r
 | _=>False
theorem Iu{x:AV}{a:AT}{k:Nat→AT→Prop}(h:Ls x a k):∃ j r,qY x=some j∧k j r:=by
 unfold Ls at h;split at h
 ·obtain ⟨j,r,h1,h2⟩:=Q3 h
  subst h1
  exact ⟨j,r,by simp [qY],h2⟩
 ·exact h.elim
def Fu(E:Env)(st:St)(k:Key)(a:AT)(q:List AV→AT→Prop):Prop:=
 JJ a fun own r=>match own with
  | true=>k.dp=E.dp∧(match aO st.bx k.d with
   | some cs=>q cs r
   | none=>False)
  | false=>Ax r fun cs r=>k.dp≠E.dp∧st.hp k=some cs∧q cs r
theorem xC{E:Env}{st:St}{k:Key}{a:AT}{q:List AV→AT→Prop}(h:Fu E st k a q):∃ cs r,st.box E.dp k=some cs∧q cs r:=by
 obtain ⟨own,r,h⟩:=xQ h
 cases own with
 | true=>
  obtain ⟨h1,h2⟩:=h
  split at h2
  ·rename_i cs hb
   exact ⟨cs,r,by simp only [St.box,aa h1,hb],h2⟩
  ·exact h2.elim
 | false=>
  obtain ⟨cs,r,h1,h2,h3⟩:=oI h
  exact ⟨cs,r,by simp only [St.box,ab h1,h2],h3⟩
def uQ(E:Env)(st:St)(k:Key)(cs:List AV)(a:AT)(q:St→AT→Prop):Prop:=
 JJ a fun own r=>match own with
  | true=>k.dp=E.dp∧q {st with bx:=nB st.bx k.d cs} r
  | false=>Q2 r fun hp r=>k.dp≠E.dp∧aG st.hp k cs=hp∧q {st with hp:=hp} r
theorem q9{E:Env}{st:St}{k:Key}{cs:List AV}{a:AT}{q:St→AT→Prop}(h:uQ E st k cs a q):∃ r,q (st.aK E.dp k cs) r:=by
 obtain ⟨own,r,h⟩:=xQ h
 cases own with
 | true=>
  obtain ⟨h1,h2⟩:=h
  exact ⟨r,by simp only [St.aK,aa h1];exact h2⟩
 | false=>
  obtain ⟨hp,r,h1,h2,h3⟩:=GN h
  subst h2
  exact ⟨r,by simp only [St.aK,ab h1];exact h3⟩
def oo(E:Env)(st:St)(pl:Pl)(a:AT)(q:TypeId→List AV→AT→Prop):Prop:=
 match pl with
 | .s d=>match ay st.fr d with
  | .o t es=>q t es a
  | _=>False
 | .c k off=>Fu E st k a fun cs r=>match cs[off]? with
  | some (.o t es)=>q t es r
  | _=>False
theorem ik{E:Env}{st:St}{pl:Pl}{a:AT}{q:TypeId→List AV→AT→Prop}(h:oo E st pl a q):∃ t es r,st.rowAt E.dp pl=some (t,es)∧q t es r:=by
 unfold oo at h
 split at h
 ·split at h
  ·rename_i t es hx
   exact ⟨t,es,a,by simp only [St.rowAt,hx],h⟩
  ·exact h.elim
 ·obtain ⟨cs,r,h1,h2⟩:=xC h
  split at h2
  ·rename_i t es hx
   exact ⟨t,es,r,by simp only [St.rowAt,h1,hx],h2⟩
  ·exact h2.elim
def C5(E:Env)(st:St)(x:AV)(pl:Pl)(a:AT)(q:St→AT→Prop):Prop:=
 match pl with
 | .s d=>q (st.cS d x) a
 | .c k off=>Fu E st k a fun cs r=>uQ E st k (cs.set off x) r q
theorem C6{E:Env}{st:St}{x:AV}{pl:Pl}{a:AT}{q:St→AT→Prop}(h:C5 E st x pl a q):∃ st' r,st.putAt E.dp x pl=some st'∧q st' r:=by
 unfold C5 at h
 split at h
 ·exact ⟨_,a,rfl,h⟩
 ·obtain ⟨cs,r,h1,h2⟩:=xC h
  obtain ⟨r',h3⟩:=q9 h2
  exact ⟨_,r',by simp only [St.putAt,h1],h3⟩
def Em(sz:Nat)(es:List AV)(j:Nat)(a:AT)(q:AV→AT→Prop):Prop:=Lr a fun e r=>es[j]? =some e∧jh (e.nc==sz) (q e r)
theorem xR{sz:Nat}{es:List AV}{j:Nat}{a:AT}{q:AV→AT→Prop}(h:Em sz es j a q):∃ e r,es[j]? =some e∧e.nc=sz∧q e r:=by
 obtain ⟨e,r,h1,h2⟩:=Ay h
 obtain ⟨h3,h4⟩:=cX h2
 exact ⟨e,r,h1,by simpa using h3,h4⟩
theorem xD{E:Env}(h:E.ro=false)(pl:Pl):pl.jr E=true:=by cases pl<;>simp [Pl.jr,h]
def Tl(E:Env):Pl→Prop
 | .s _=>(false:Bool)=false
 | .c _ _=>E.ro=false
theorem N5{E:Env} : ∀ {pl:Pl},Tl E pl→pl.jr E=true
 | .s _,_=>rfl
 | .c _ _,h=>xD h _
def GO(E:Env)(st:St)(x:AV)(a:AT)(q:TypeId→List AV→AT→Prop):Prop:=
 match x with
 | .l t es=>q t es a
 | .n=>q 0 [] a
 | .o t es=>q t es a
 | .r pl=>oo E st pl a q
 | .v pl lo len=>oo E st pl a fun t es r=>Ax r fun es' r=>lo+len≤es.length∧(es.drop lo).take len=es'∧q t es' r
 | _=>False
theorem JK{E:Env}{st:St}{x:AV}{a:AT}{q:TypeId→List AV→AT→Prop}(h:GO E st x a q):∃ t es r,st.elems E.dp x=some (t,es)∧q t es r:=by
 unfold GO at h
 split at h
 ·exact ⟨_,_,a,rfl,h⟩
 ·exact ⟨_,_,a,rfl,h⟩
 ·exact ⟨_,_,a,rfl,h⟩
 ·obtain ⟨t,es,r,h1,h2⟩:=ik h
  exact ⟨t,es,r,h1,h2⟩
 ·obtain ⟨t,es,r,h1,h2⟩:=ik h
  obtain ⟨es',r',h3,h4,h5⟩:=oI h2
  subst h4
  exact ⟨t,_,r',by simp only [St.elems,h1,aa h3],h5⟩
 ·exact h.elim
def xj(E:Env)(st:St):List AV→AT→(List AV→List TypeId→AT→Prop)→Prop
 | [],a,q=>q [] [] a
 | x::xs,a,q=>(match x with
  | .o t es=>xj E st xs a fun ys ts r=>q (.l t es::ys) ([t]++ts) r
  | .r pl=>oo E st pl a fun t es r=>xj E st xs r fun ys ts r=>q (.l t es::ys) ([t]++ts) r
  | .v pl lo len=>oo E st pl a fun t es r=>Ax r fun es' r=>lo+len≤es.length∧(es.drop lo).take len=es'∧xj E st xs r fun ys ts r=>q (.l t es'::ys) ([t]++ts) r
  | .w _ t x=>xj E st xs a fun ys ts r=>q (x::ys) ([t]++ts) r
  | x=>jh x.pure (xj E st xs a fun ys ts r=>q (x::ys) ([]++ts) r))
theorem sY{E:Env}{st:St} : ∀ {xs:List AV}{a:AT}{q:List AV→List TypeId→AT→Prop},xj E st xs a q→∃ ys ts r,st.ep E.dp xs=some (ys,ts)∧q ys ts r
 | [],a,q,h=>⟨[],[],a,rfl,h⟩
 | x::xs,a,q,h=>by
  unfold xj at h
  split at h
  ·obtain ⟨ys,ts,r,h1,h2⟩:=sY h
   exact ⟨_,_,r,by simp [St.ep,St.ic,h1],h2⟩
  ·obtain ⟨t,es,r,h1,h2⟩:=ik h
   obtain ⟨ys,ts,r,h3,h4⟩:=sY h2
   exact ⟨_,_,r,by simp [St.ep,St.ic,h1,h3],h4⟩
  ·obtain ⟨t,es,r,h1,h2⟩:=ik h
   obtain ⟨es',r,h3,h4,h5⟩:=oI h2
   obtain ⟨ys,ts,r,h6,h7⟩:=sY h5
   subst h4
   exact ⟨_,_,r,by simp [St.ep,St.ic,h1,h3,h6],h7⟩
  ·obtain ⟨ys,ts,r,h1,h2⟩:=sY h
   exact ⟨_,_,r,by simp [St.ep,St.ic,h1],h2⟩
  ·rename_i h1 h2 h3 hw
   obtain ⟨h4,h5⟩:=cX h
   obtain ⟨ys,ts,r,h6,h7⟩:=sY h5
   refine ⟨_,_,r,?_,h7⟩
   have:st.ic E.dp x=some (x,[]):=by
    unfold St.ic
    split
    ·exact (h1 _ _ rfl).elim
    ·exact (h2 _ rfl).elim
    ·exact (h3 _ _ _ rfl).elim
    ·exact (hw _ _ _ rfl).elim
    ·simp [AV.pure] at h4
    ·rw [aa (by simpa [AV.pure] using h4)]
    ·rw [aa h4]
   simp [St.ep,this,h6]
abbrev KW:=AV→St→AT→Prop
section
variable (G:qi)(Ω:dt)(E:Env)(st:St)(d:Option Nat)
def iaW(sz:Nat)(arr:Option Nat)(x:AV)(xo:ba)(j:Nat)(a:AT)(k:KW):Prop:=
 match arr with
 | some len=>j<len∧(match x with
  | .p kk o=>k (.p kk (o+j*sz)) st a
  | .e y o=>k (.e y (o+j*sz)) st a
  | _=>False)
 | none=>match x with
  | .l _ es=>Em sz es j a fun e r=>k (.e e 0) st r
  | .o _ es=>match xo with
   | .t m=>Em sz es j a fun _ r=>k (.q (.s m) j sz 0) st r
   | .c _=>False
  | .r pl=>oo E st pl a fun _ es r=>Em sz es j r fun _ r=>k (.q pl j sz 0) st r
  | .v pl lo len=>oo E st pl a fun _ es r=>j<len∧lo+len≤es.length∧(Em sz es (lo+j) r fun _ r=>k (.q pl (lo+j) sz 0) st r)
  | _=>False
def Tm(E:Env)(k:Key):Prop:=match E.ro with
 | false=>false=false
 | true=>k.dp=E.dp
theorem Po{E:Env}{k:Key}(h:Tm E k)(off:Nat):(Pl.c k off).jr E=true:=by
 unfold Tm at h
 cases hr:E.ro with
 | false=>exact xD hr _
 | true=>rw [hr] at h;simp [Pl.jr,h]
def boW(op:BinOp)(bl:Bool)(x y:AV)(a:AT)(k:KW):Prop:=
 match x,y with
 | .i ki m,.i ki' n=>if ki=ki' then
   match op with
   | .add=>GM a fun r a=>ki.wrap (m+n)=r∧k (.i ki r) st a
   | .sub=>GM a fun r a=>ki.wrap (m - n)=r∧k (.i ki r) st a
   | .mul=>GM a fun r a=>ki.wrap (m*n)=r∧k (.i ki r) st a
   | .quo=>GM a fun r a=>n≠0∧ki.wrap (m.tdiv n)=r∧k (.i ki r) st a
   | .rem=>GM a fun r a=>n≠0∧m.tmod n=r∧k (.i ki r) st a
   | .or=>GM a fun r a=>(if n>m then n else m)=r∧k (.i ki r) st a
   | .eql=>k (.b (m==n)) st a
   | .neq=>k (.b (m !=n)) st a
   | .lss=>k (.b (decide (m<n))) st a
   | .leq=>k (.b (decide (m≤n))) st a
   | .gtr=>k (.b (decide (n<m))) st a
   | .geq=>k (.b (decide (n≤m))) st a
   | _=>False
  else False
 | .b m,.b n=>match bl,op with
  | true,.eql=>k (.b (m==n)) st a
  | true,.neq=>k (.b (!(m==n))) st a
  | _,_=>False
 | .s m,.s n=>match op with
  | .add=>tkS a fun r a=>m.length+n.length≤4611686018427387904∧m++n=r∧k (.s r) st a
  | .eql=>k (.b (m==n)) st a
  | .neq=>k (.b (!(m==n))) st a
  | _=>False
 | _,_=>False
def ldW(n:Option Nat)(x:AV)(a:AT)(k:KW):Prop:=
 match x with
 | .p kk off=>Fu E st kk a fun cs a=>match pick n off cs with
  | some (.o _ _)=>k (.r (.c kk off)) st a
  | some y=>jh y.copy (k y st a)
  | none=>False
 | .e x off=>match pick n off x.cl with
  | some y=>k y st a
  | none=>False
 | .q pl i sz off=>oo E st pl a fun _ es a=>Em sz es i a fun e a=>match pick n off e.cl with
  | some y=>k y st a
  | none=>False
 | _=>False
def stW(n:Nat)(x y:AV)(yo:ba)(a:AT)(k:KW):Prop:=
 match x with
 | .p kk off=>Tm E kk∧(Fu E st kk a fun cs a=>match y with
  | .o t es=>match yo with
   | .t m=>jh (n==1&&decide (off<cs.length)) (uQ E ((st.cS m .u).aX (.c kk off)) kk (cs.set off (.o t es)) a fun st' a=>k .u st' a)
   | .c _=>False
  | .v pl lo len=>pl= .c kk off∧jh (lo==0&&n==1) (oo E st pl a fun t es a=>Ax a fun es' a=>len≤es.length∧es.take len=es'∧(uQ E (st.aX (.c kk off)) kk (cs.set off (.o t es')) a fun st' a=>k .u st' a))
  | y=>y.deep kk.dp=true∧jh (y.copy&&y.nc==n&&y.cl.all AV.one&&decide (off+n≤cs.length)) (uQ E st kk (putCells cs off y.cl) a fun st' a=>k .u st' a))
 | .q pl i sz off=>E.ro=false∧(oo E st pl a fun t es a=>Lr a fun e a=>es[i]? =some e∧jh (e.nc==sz&&y.pure&&y.nc==n&&y.cl.all AV.one&&decide (off+n≤sz)) (Ax a fun es' a=>es.set i (Bp e off y.cl)=es'∧(C5 E st (.o t es') pl a fun st' a=>k .u st' a)))
 | _=>False
def Fv(x:Option AV)(dflt:Nat)(a:AT)(k:Nat→AT→Prop):Prop:=
 match x with
 | none=>k dflt a
 | some y=>Ls y a k
def slW(t sz:Nat)(x:AV)(lo hi:Option AV)(a:AT)(k:KW):Prop:=
 match x with
 | .s l=>Fv lo 0 a fun i a=>Fv hi l.length a fun j a=>tkS a fun r a=>t=0∧i≤j∧j≤l.length∧(l.take j).drop i=r∧k (.s r) st a
 | .l t' es=>Fv lo 0 a fun i a=>Fv hi es.length a fun j a=>Ax a fun r a=>t≠0∧es.all (fun e=>e.nc==sz)=true∧i≤j∧j≤es.length∧(es.take j).drop i=r∧k (.l t' r) st a
 | .r pl=>oo E st pl a fun t' es a=>Fv lo 0 a fun i a=>Fv hi es.length a fun j a=>tkN a fun m a=>jh (t !=0&&t'==t) (i≤j∧j≤es.length∧j - i=m∧k (.v pl i m) st a)
 | _=>False
def Fx(t:TypeId)(x:ba)(a:AT)(k:List AV→St→AT→Prop):Prop:=
 match x with
 | .c .n=>k [] st a
 | .c _=>False
 | .t m=>match ay st.fr m with
  | .n=>k [] st a
  | .o t' es=>jh (t'==t) (k es (st.cS m .u) a)
  | .r pl=>Tl E pl∧(oo E st pl a fun t' es a=>jh (t'==t) (C5 E st .u pl a fun st' a=>k es st' a))
  | .v pl lo len=>Tl E pl∧jh (lo==0) (oo E st pl a fun t' es a=>Ax a fun es' a=>len≤es.length∧t'=t∧es.take len=es'∧(C5 E st .u pl a fun st' a=>k es' st' a))
  | _=>False
noncomputable def Q5(m:Nat)(f:FuncId)(args:List AV)(a:AT)(k:KW):Prop:=
 match m with
 | 0=>xj E st args a fun ys ts a=>Lr a fun x a=>call G Ω ⟨0,false⟩ f ys (fun _=>none)=some (.ret x,fun _=>none)∧(match ts with
  | []=>jh x.pure (k x st a)
  | ts=>x.pure=true∧x.off ts=true∧k x st a)
 | 1=>xj E st args a fun ys ts a=>Lr a fun x a=>Ω f ys=some x∧(match ts with
  | []=>jh x.pure (k x st a)
  | ts=>x.pure=true∧x.off ts=true∧k x st a)
 | _=>False
noncomputable def Q6(f:FuncId)(args:List AV)(a:AT)(k:KW):Prop:=
 match args.all AV.kT with
 | true=>Q5 G Ω E st 0 f args a k
 | false=>E.ro=false∧(st.bx.all fun y=>AV.fJ E.dp y.2)=true∧jh (args.all AV.copy) (Lr a fun x a=>Q2 a fun h2 a=>aaA a fun bx a=>Q2 a fun h3 a=>
  call G Ω ⟨E.dp+1,false⟩ f args (fun kk=>st.box E.dp kk)=some (.ret x,h2)∧gD E.dp h2 st.bx=bx∧(fun kk:Key=>if kk.dp<E.dp then h2 kk else none)=h3∧
  k x ⟨st.fr.map fun y=>(y.1,if mg y.2=true then .u else y.2),bx,h3⟩ a)
noncomputable def c3W(f:FuncId)(args:List AV)(a:AT)(k:KW):Prop:=
 (st.bx.all fun y=>AV.fJ E.dp y.2)=true∧jh (args.all AV.copy) (Lr a fun x a=>Q2 a fun h2 a=>call G Ω ⟨E.dp+1,true⟩ f args (fun kk=>st.box E.dp kk)=some (.ret x,h2)∧jh x.pure (k x st a))
noncomputable def qm(a:AT)(o:oG)(k:KW):Prop:=
 match o with
 | .mv x=>match st.ev x with
  | .o _ _=>match x with
   | .t n=>k (.r (.s n)) st a
   | .c _=>False
  | y=>k y st a
 | .as x=>match x with
  | .c y=>jh y.pure (k y st a)
  | .t n=>match ay st.fr n with
   | .o t es=>match d with
    | some d=>k (.o t es) ((st.cS n .u).aX (.s d)) a
    | none=>False
   | .v pl lo len=>match d with
    | some d=>JJ a fun own a=>match own with
     | true=>pl= .s d∧jh (lo==0) (oo E st pl a fun t es a=>Ax a fun es' a=>len≤es.length∧es.take len=es'∧k (.o t es') (st.aX (.s d)) a)
     | false=>(pl= .s d→(lo==0)=false)∧k (.v pl lo len) st a
    | none=>False
   | y=>jh (y.copy||Ei y) (k y st a)
 | .pk c x y=>match st.ev c with
  | .b z=>JJ a fun w a=>z=w∧(match w with
   | true=>jh (st.ev x).copy (k (st.ev x) st a)
   | false=>jh (st.ev y).copy (k (st.ev y) st a))
  | _=>False
 | .bx x=>match d with
  | some d=>((st.ev x).deep E.dp&&(st.fr.all (fun y=>y.2.cJ ⟨E.dp,d⟩)&&st.bx.all (fun y=>AV.eG ⟨E.dp,d⟩ y.2)))=true∧
   jh ((st.ev x).copy&&(st.ev x).cl.all AV.one&&iZ st.bx d) (k (.p ⟨E.dp,d⟩ 0) {st with bx:=(d,(st.ev x).cl)::st.bx} a)
  | none=>False
 | .al zs=>match d with
  | some d=>(st.fr.all (fun y=>y.2.cJ ⟨E.dp,d⟩)&&st.bx.all (fun y=>AV.eG ⟨E.dp,d⟩ y.2))=true∧jh (iZ st.bx d) (k (.p ⟨E.dp,d⟩ 0) {st with bx:=(d,zs)::st.bx} a)
  | none=>False
 | .ld n x=>ldW E st n (st.ev x) a k
 | .st n x y=>stW E st n (st.ev x) (st.ev y) y a k
 | .fa off x=>match st.ev x with
  | .p kk o=>k (.p kk (o+off)) st a
  | .e y o=>k (.e y (o+off)) st a
  | .q pl i sz o=>oo E st pl a fun _ es a=>i<es.length∧k (.q pl i sz (o+off)) st a
  | _=>False
 | .fd n off x=>match st.ev x with
  | .a cs=>match pick n off cs with
   | some y=>k y st a
   | none=>False
  | _=>False
 | .ia sz arr x i=>Ls (st.ev i) a fun j a=>iaW E st sz arr (st.ev x) x j a k
 | .bo op bl x y=>boW st op bl (st.ev x) (st.ev y) a k
 | .no x=>match st.ev x with
  | .b y=>k (.b (!y)) st a
  | _=>False
 | .bs t sz es=>match d with
  | some d=>jh ((es.map st.ev).all fun y=>y.pure&&y.cl.all AV.one&&y.nc==sz) (Ax a fun vs a=>es.map st.ev=vs∧k (.o t vs) (st.aX (.s d)) a)
  | none=>False
 | .bd zs fs=>jh (fs.all fun f=>(st.ev f.2.2).copy&&(st.ev f.2.2).nc==f.2.1&&(st.ev f.2.2).cl.all AV.one&&decide (f.1+f.2.1≤zs.length))
   (k (.a (fs.foldl (fun cs f=>putCells cs f.1 (st.ev f.2.2).cl) zs)) st a)
 | .ms t _ by_ x n=>match d with
  | some d=>Ls (st.ev n) a fun n a=>Ax a fun es a=>n*by_≤140737488355328∧n≤maxLen∧List.replicate n x=es∧k (.o t es) (st.aX (.s d)) a
  | none=>False
 | .sl t sz x lo hi=>slW E st t sz (st.ev x) (lo.map st.ev) (hi.map st.ev) a k
 | .ex x i=>match st.ev x with
  | .tp vs=>match vs[i]? with
   | some y=>k y st a
   | none=>False
  | _=>False
 | .mf f caps=>jh (AV.mC (caps.map st.ev)) (k (.f f (caps.map st.ev)) st a)
 | .ca m f args=>Q5 G Ω E st m f (args.map st.ev) a k
 | .cf m x args=>match st.ev x with
  | .f f caps=>jh (decide (f<1000000)) (Q5 G Ω E st m f (args.map st.ev++caps) a k)
  | _=>False
 | .c2 f args=>Q6 G Ω E st f (args.map st.ev) a k
 | .d2 x args=>match st.ev x with
  | .f f caps=>match decide (f<1000000) with
   | true=>Q6 G Ω E st f (args.map st.ev++caps) a k
   | false=>Q6 G Ω E st (f - 1000000) (caps++args.map st.ev) a k
  | _=>False
 | .c3 f args=>c3W G Ω E st f (args.map st.ev) a k
 | .d3 x args=>match st.ev x with
  | .f f caps=>jh (decide (f<1000000)) (c3W G Ω E st f (args.map st.ev++caps) a k)
  | _=>False
 | .cm _ _ _ _=>False
 | .cr t f args=>match d with
  | some dd=>jh (AV.bk (args.map st.ev)) (Ω f (args.map st.ev)=some (.o t [])∧k (.o t []) (st.aX (.s dd)) a)
  | none=>False
 | .ln str x=>match st.ev x with
  | .s l=>jh str (GM a fun n a=>(l.length:Int)=n∧k (.i .i64 n) st a)
  | y=>jh (!str) (GO E st y a fun _ es a=>GM a fun n a=>(es.length:Int)=n∧k (.i .i64 n) st a)
 | .ap t sz by_ x y=>match d with
  | some d=>GO E st (st.ev y) a fun _ ys a=>Fx E st t x a fun es st' a=>Ax a fun r a=>
    ys.all (fun e=>e.nc==sz)=true∧(es.length+ys.length)*by_≤140737488355328∧es.length+ys.length≤maxLen∧es++ys=r∧k (.o t r) (st'.aX (.s d)) a
  | none=>False
 | .nc x=>match st.ev x with
  | .p kk o=>k (.p kk o) st a
  | .e y o=>k (.e y o) st a
  | .f g caps=>k (.f g caps) st a
  | _=>False
end
section
variable {G:qi}{Ω:dt}{E:Env}{st:St}{d:Option Nat}
def Told(o:oG)(k:KW)(G:qi)(Ω:dt)(E:Env)(st:St)(d:Option Nat):Prop:=∃ x st' r,execOp (call G Ω) Ω E st d o=some (x,st')∧k x st' r
theorem Told.mk{o:oG}{k:KW}{x:AV}{st':St}{r:AT}(h:execOp (call G Ω) Ω E st d o=some (x,st'))(hk:k x st' r):Told o k G Ω E st d:=⟨x,st',r,h,hk⟩
theorem zC{sz:Nat}{es:List AV}{j:Nat}{e:AV}{f:AV→AV}(h:es[j]? =some e)(hn:e.nc=sz):elemAt sz st es[j]? f=some (f e,st):=by
 rw [h];simp only [elemAt,ae,hn,an]
theorem aaH{op:BinOp}{bl:Bool}{x y:ba}{a:AT}{k:KW}(h:boW st op bl (st.ev x) (st.ev y) a k):Told (.bo op bl x y) k G Ω E st d:=by
 unfold boW at h
 split at h
 ·rename_i ki m ki' n hx hy
  split at h
  ·rename_i hki
   subst hki
   split at h
   ·obtain ⟨r,a',h1,h2⟩:=vT h
    exact .mk (by simp only [execOp,hx,hy,pf,an,sW,h1,ae]) h2
   ·obtain ⟨r,a',h1,h2⟩:=vT h
    exact .mk (by simp only [execOp,hx,hy,pf,an,sW,h1,ae]) h2
   ·obtain ⟨r,a',h1,h2⟩:=vT h
    exact .mk (by simp only [execOp,hx,hy,pf,an,sW,h1,ae]) h2
   ·obtain ⟨r,a',h0,h1,h2⟩:=vT h
    exact .mk (by simp only [execOp,hx,hy,pf,an,sW,ab h0,h1,ae]) h2
   ·obtain ⟨r,a',h0,h1,h2⟩:=vT h
    exact .mk (by simp only [execOp,hx,hy,pf,an,sW,ab h0,h1,ae]) h2
   ·obtain ⟨r,a',h1,h2⟩:=vT h
    exact .mk (by simp only [execOp,hx,hy,pf,an,sW,h1,ae]) h2
   ·exact .mk (by simp only [execOp,hx,hy,pf,an,sW,ae]) h
   ·exact .mk (by simp only [execOp,hx,hy,pf,an,sW,ae]) h
   ·exact .mk (by simp only [execOp,hx,hy,pf,an,sW,ae]) h
   ·exact .mk (by simp only [execOp,hx,hy,pf,an,sW,ae]) h
   ·exact .mk (by simp only [execOp,hx,hy,pf,an,sW,ae]) h
   ·exact .mk (by simp only [execOp,hx,hy,pf,an,sW,ae]) h
   ·exact h.elim
  ·exact h.elim
 ·rename_i m n hx hy
  split at h
  ·exact .mk (by simp only [execOp,hx,hy,pf,an,ae]) h
  ·exact .mk (by simp only [execOp,hx,hy,pf,an,ae]) h
  ·exact h.elim
 ·rename_i m n hx hy
  split at h
  ·obtain ⟨r,a',h0,h1,h2⟩:=Q4 h
   exact .mk (by simp only [execOp,hx,hy,pf,aa h0,h1,ae]) h2
  ·exact .mk (by simp only [execOp,hx,hy,pf,ae]) h
  ·exact .mk (by simp only [execOp,hx,hy,pf,ae]) h
  ·exact h.elim
 ·exact h.elim
theorem aaI{n:Option Nat}{x:ba}{a:AT}{k:KW}(h:ldW E st n (st.ev x) a k):Told (.ld n x) k G Ω E st d:=by
 unfold ldW at h
 split at h
 ·rename_i kk off hx
  obtain ⟨cs,r,h1,h2⟩:=xC h
  split at h2
  ·rename_i t es hp
   exact .mk (by simp only [execOp,hx,h1,hp,ae]) h2
  ·rename_i y hy hp
   obtain ⟨h3,h4⟩:=cX h2
   refine .mk (x:=y) (st':=st) ?_ h4
   simp only [execOp,hx,h1,hp,ae,aa h3]
  ·exact h2.elim
 ·rename_i y off hx
  split at h
  ·rename_i z hp
   exact .mk (by simp only [execOp,hx,hp,ae]) h
  ·exact h.elim
 ·rename_i pl i sz off hx
  obtain ⟨t,es,r,h1,h2⟩:=ik h
  obtain ⟨e,r',h3,h4,h5⟩:=xR h2
  split at h5
  ·rename_i z hp
   exact .mk (by simp only [execOp,hx,h1,h3,hp,h4,an,ae]) h5
  ·exact h5.elim
 ·exact h.elim
theorem aaJ{n:Nat}{x y:ba}{a:AT}{k:KW}(h:stW E st n (st.ev x) (st.ev y) y a k):Told (.st n x y) k G Ω E st d:=by
 unfold stW at h
 split at h
 ·rename_i kk off hx
  obtain ⟨hro,h⟩:=h
  obtain ⟨cs,r,h1,h2⟩:=xC h
  split at h2
  ·rename_i t es hy
   split at h2
   ·rename_i m
    obtain ⟨h3,h4⟩:=cX h2
    obtain ⟨r',h5⟩:=q9 h4
    exact .mk (by simp only [execOp,hx,Po hro _,an,h1,hy,ae,aa h3]) h5
   ·exact h2.elim
  ·rename_i pl lo len hy
   obtain ⟨rfl,h2⟩:=h2
   obtain ⟨h3,h4⟩:=cX h2
   obtain ⟨t,es,r1,h5,h6⟩:=ik h4
   obtain ⟨es',r2,h7,rfl,h9⟩:=oI h6
   obtain ⟨r',h10⟩:=q9 h9
   simp only [aB] at h3
   exact .mk (by simp only [execOp,hx,Po hro _,an,h1,hy,ae,h3.1,h3.2,gT,oa,gY,h5,aa h7,true_and,and_self]) h10
  ·rename_i y' hy1 hy2
   obtain ⟨h0,h2⟩:=h2
   obtain ⟨h3,h4⟩:=cX h2
   obtain ⟨r',h5⟩:=q9 h4
   have h6:((st.ev y).copy&&(st.ev y).nc==n&&(st.ev y).cl.all AV.one&&(st.ev y).deep kk.dp&&decide (off+n≤cs.length))=true:=by
    simp only [aB] at h3 ⊢
    exact ⟨⟨h3.1,h0⟩,h3.2⟩
   refine .mk (x:=.u) (st':=st.aK E.dp kk (putCells cs off (st.ev y).cl)) ?_ h5
   simp only [execOp,hx,Po hro _,an,h1,ae,aa h6]
 ·rename_i pl i sz off hx
  obtain ⟨hro,h⟩:=h
  obtain ⟨t,es,r,h1,h2⟩:=ik h
  obtain ⟨e,r1,h3,h4⟩:=Ay h2
  obtain ⟨h5,h6⟩:=cX h4
  obtain ⟨es',r2,rfl,h8⟩:=oI h6
  obtain ⟨st',r3,h9,h10⟩:=C6 h8
  exact .mk (by simp only [execOp,hx,xD hro,an,h1,h3,ae,aa h5,h9]) h10
 ·exact h.elim
theorem xE{x:Option ba}{dflt:Nat}{a:AT}{k:Nat→AT→Prop}(h:Fv (x.map st.ev) dflt a k):∃ j r,oi st x dflt=some j∧k j r:=by
 cases x with
 | none=>exact ⟨dflt,a,rfl,h⟩
 | some y=>
  obtain ⟨j,r,h1,h2⟩:=Iu (x:=st.ev y) h
  exact ⟨j,r,h1,h2⟩
theorem aaK{t sz:Nat}{x:ba}{lo hi:Option ba}{a:AT}{k:KW}(h:slW E st t sz (st.ev x) (lo.map st.ev) (hi.map st.ev) a k):Told (.sl t sz x lo hi) k G Ω E st d:=by
 unfold slW at h
 split at h
 ·rename_i l hx
  obtain ⟨i,r1,h1,h2⟩:=xE h
  obtain ⟨j,r2,h3,h4⟩:=xE h2
  obtain ⟨z,r3,rfl,h5,h6,rfl,h8⟩:=Q4 h4
  exact .mk (by simp [execOp,hx,h1,h3,h5,h6]) h8
 ·rename_i t' es hx
  obtain ⟨i,r1,h1,h2⟩:=xE h
  obtain ⟨j,r2,h3,h4⟩:=xE h2
  obtain ⟨z,r3,h0,hall,h5,h6,rfl,h8⟩:=oI h4
  exact .mk (by simp only [execOp,hx,h1,h3,ae,hall,tA,ne_eq,h0,pS,h5,h6,oa,tB,gT,an]) h8
 ·rename_i pl hx
  obtain ⟨t',es,r0,hr,h⟩:=ik h
  obtain ⟨i,r1,h1,h2⟩:=xE h
  obtain ⟨j,r2,h3,h4⟩:=xE h2
  obtain ⟨m,r3,h5⟩:=Q3 h4
  obtain ⟨h6,h7,h8,rfl,h10⟩:=cX h5
  exact .mk (by simp only [execOp,hx,hr,h1,h3,ae,h6,h7,h8,oa,gT,an]) h10
 ·exact h.elim
theorem Np{t:TypeId}{x:ba}{a:AT}{k:List AV→St→AT→Prop}(h:Fx E st t x a k):∃ es st' r,consume E st t x=some (es,st')∧k es st' r:=by
 unfold Fx at h
 split at h
 ·exact ⟨_,_,a,rfl,h⟩
 ·exact h.elim
 ·rename_i m
  split at h
  ·rename_i hx
   exact ⟨_,_,a,by simp only [consume,hx],h⟩
  ·rename_i t' es hx
   obtain ⟨h1,h2⟩:=cX h
   exact ⟨_,_,a,by simp only [consume,hx,aa (cR.1 h1)],h2⟩
  ·rename_i pl hx
   obtain ⟨hro,h⟩:=h
   obtain ⟨t',es,r,h1,h2⟩:=ik h
   obtain ⟨h3,h4⟩:=cX h2
   obtain ⟨st',r',h5,h6⟩:=C6 h4
   exact ⟨_,_,r',by simp only [consume,hx,N5 hro,an,h1,ae,aa (cR.1 h3),h5],h6⟩
  ·rename_i pl lo len hx
   obtain ⟨hro,h⟩:=h
   obtain ⟨h0,h⟩:=cX h
   obtain ⟨t',es,r,h1,h2⟩:=ik h
   obtain ⟨es',r2,h3,h4,rfl,h6⟩:=oI h2
   obtain ⟨st',r',h7,h8⟩:=C6 h6
   exact ⟨_,_,r',by simp only [consume,hx,N5 hro,h0,gT,an,h1,ae,aa (And.intro h3 h4),h7],h8⟩
  ·exact h.elim
theorem aaL{sz:Nat}{arr:Option Nat}{x i:ba}{j:Nat}{a:AT}{k:KW}(hj:qY (st.ev i)=some j)(h:iaW E st sz arr (st.ev x) x j a k):Told (.ia sz arr x i) k G Ω E st d:=by
 unfold iaW at h
 split at h
 ·rename_i len
  obtain ⟨h1,h⟩:=h
  split at h
  ·rename_i kk o hx
   exact .mk (by simp only [execOp,hj,ae,aa h1,hx]) h
  ·rename_i y o hx
   exact .mk (by simp only [execOp,hj,ae,aa h1,hx]) h
  ·exact h.elim
 ·split at h
  ·rename_i t es hx
   obtain ⟨e,r,h1,h2,h3⟩:=xR h
   exact .mk (by simp only [execOp,hj,ae,hx];exact zC h1 h2) h3
  ·rename_i t es hx
   split at h
   ·rename_i m
    obtain ⟨e,r,h1,h2,h3⟩:=xR h
    exact .mk (by simp only [execOp,hj,ae,hx];exact zC h1 h2) h3
   ·exact h.elim
  ·rename_i pl hx
   obtain ⟨t,es,r0,h0,h⟩:=ik h
   obtain ⟨e,r,h1,h2,h3⟩:=xR h
   exact .mk (by simp only [execOp,hj,ae,hx,h0];exact zC h1 h2) h3
  ·rename_i pl lo len hx
   obtain ⟨t,es,r0,h0,h4,h5,h⟩:=ik h
   obtain ⟨e,r,h1,h2,h3⟩:=xR h
   exact .mk (by simp only [execOp,hj,ae,hx,aa h4,h0,aa h5];exact zC h1 h2) h3
  ·exact h.elim
theorem Lt{m:Nat}{f:FuncId}{args:List AV}{a:AT}{k:KW}(h:Q5 G Ω E st m f args a k):∃ x r,aS (call G Ω) Ω E st m f args=some (x,st)∧k x st r:=by
 unfold Q5 at h
 split at h
 ·obtain ⟨ys,ts,r,h1,h2⟩:=sY h
  obtain ⟨x,r1,h3,h4⟩:=Ay h2
  have h5:∃ b,(x.pure&&(ts.isEmpty||x.off ts))=true∧b=r1∧k x st b:=by
   split at h4
   ·obtain ⟨h5,h6⟩:=cX h4
    exact ⟨r1,by simp [h5],rfl,h6⟩
   ·exact ⟨r1,by simp [h4.1,h4.2.1],rfl,h4.2.2⟩
  obtain ⟨b,h6,rfl,h7⟩:=h5
  exact ⟨x,b,by simp only [aS,h1,ae,h3,h6,an],h7⟩
 ·obtain ⟨ys,ts,r,h1,h2⟩:=sY h
  obtain ⟨x,r1,h3,h4⟩:=Ay h2
  have h5:∃ b,(x.pure&&(ts.isEmpty||x.off ts))=true∧b=r1∧k x st b:=by
   split at h4
   ·obtain ⟨h5,h6⟩:=cX h4
    exact ⟨r1,by simp [h5],rfl,h6⟩
   ·exact ⟨r1,by simp [h4.1,h4.2.1],rfl,h4.2.2⟩
  obtain ⟨b,h6,rfl,h7⟩:=h5
  exact ⟨x,b,by simp only [aS,h1,ae,h3,h6,an],h7⟩
 ·exact h.elim
theorem Lu{f:FuncId}{args:List AV}{a:AT}{k:KW}(h:Q6 G Ω E st f args a k):∃ x st' r,dq (call G Ω) Ω E st f args=some (x,st')∧k x st' r:=by
 unfold Q6 at h
 split at h
 ·rename_i hc
  obtain ⟨x,r,h1,h2⟩:=Lt h
  exact ⟨x,st,r,by rw [dq,aa hc];exact h1,h2⟩
 ·rename_i hc
  obtain ⟨h1,h2,h⟩:=h
  obtain ⟨h3,h⟩:=cX h
  obtain ⟨x,r1,h⟩:=Ay h
  obtain ⟨hp2,r2,h⟩:=GN h
  obtain ⟨bx,r3,h⟩:=V3 h
  obtain ⟨hp3,r4,h4,rfl,rfl,h5⟩:=GN h
  refine ⟨x,st.back E.dp hp2,r4,?_,h5⟩
  rw [dq,ab (by rw [hc];simp)]
  simp only [h1,h2,h3,Bool.not_false,gT,an,h4,ae]
theorem Q7{f:FuncId}{args:List AV}{a:AT}{k:KW}(h:c3W G Ω E st f args a k):∃ x r,js (call G Ω) E st f args=some (x,st)∧k x st r:=by
 obtain ⟨h1,h⟩:=h
 obtain ⟨h2,h⟩:=cX h
 obtain ⟨x,r1,h⟩:=Ay h
 obtain ⟨hp2,r2,h3,h⟩:=GN h
 obtain ⟨h4,h5⟩:=cX h
 exact ⟨x,r2,by simp only [js,h1,h2,gT,an,h3,ae,h4],h5⟩
theorem Lv{o:oG}{a:AT}{k:KW}(h:qm G Ω E st d a o k):Told o k G Ω E st d:=by
 cases o with
 | mv x=>
  simp only [qm] at h
  split at h
  ·rename_i t es hx
   split at h
   ·exact .mk (by simp only [execOp,hx]) h
   ·exact h.elim
  ·rename_i hx
   refine .mk (x:=st.ev x) (st':=st) ?_ h
   simp only [execOp]
 | as x=>
  cases x with
  | c y=>
   obtain ⟨h1,h2⟩:=cX h
   exact .mk (by simp only [execOp,h1,an]) h2
  | t n=>
   simp only [qm] at h
   split at h
   ·rename_i t es hx
    split at h
    ·exact .mk (by simp only [execOp,hx,ae]) h
    ·exact h.elim
   ·rename_i pl lo len hx
    split at h
    ·rename_i dd
     obtain ⟨own,r,h⟩:=xQ h
     cases own with
     | true=>
      obtain ⟨rfl,h⟩:=h
      obtain ⟨h1,h⟩:=cX h
      obtain ⟨t,es,r1,h2,h⟩:=ik h
      obtain ⟨es',r2,h3,rfl,h5⟩:=oI h
      exact .mk (by simp only [execOp,hx,ae,h1,oa,gT,and_self,an,h2,aa h3]) h5
     | false=>
      obtain ⟨h1,h2⟩:=h
      refine .mk (x:=.v pl lo len) (st':=st) ?_ h2
      simp only [execOp,hx,ae]
      rw [ab]
      simp only [aB,cE]
      rintro ⟨h3,h4⟩
      rw [h1 h3] at h4
      cases h4
    ·exact h.elim
   ·rename_i hx1 hx2
    obtain ⟨h1,h2⟩:=cX h
    refine .mk (x:=ay st.fr n) (st':=st) ?_ h2
    simp only [execOp,aa h1]
 | pk c x y=>
  simp only [qm] at h
  split at h
  ·rename_i z hc
   obtain ⟨w,r,rfl,h⟩:=xQ h
   cases z with
   | true=>
    obtain ⟨h1,h2⟩:=cX h
    exact .mk (by simp only [execOp,hc,qh,ae,an,h1]) h2
   | false=>
    obtain ⟨h1,h2⟩:=cX h
    exact .mk (by simp only [execOp,hc,qh,ae,bn,aI,h1,an]) h2
  ·exact h.elim
 | bx x=>
  simp only [qm] at h
  split at h
  ·rename_i dd
   obtain ⟨h1,h⟩:=h
   obtain ⟨h2,h3⟩:=cX h
   simp only [aB] at h1 h2
   exact .mk (by simp only [execOp,ae,h1.1,h1.2.1,h1.2.2,h2.1.1,h2.1.2,h2.2,gT,an]) h3
  ·exact h.elim
 | al zs=>
  simp only [qm] at h
  split at h
  ·rename_i dd
   obtain ⟨h1,h⟩:=h
   obtain ⟨h2,h3⟩:=cX h
   simp only [aB] at h1
   exact .mk (by simp only [execOp,ae,h1.1,h1.2,h2,gT,an]) h3
  ·exact h.elim
 | ld n x=>exact aaI h
 | st n x y=>exact aaJ h
 | fa off x=>
  simp only [qm] at h
  split at h
  ·rename_i hx;exact .mk (by simp only [execOp,hx]) h
  ·rename_i hx;exact .mk (by simp only [execOp,hx]) h
  ·rename_i hx
   obtain ⟨t,es,r,h1,h2,h3⟩:=ik h
   exact .mk (by simp only [execOp,hx,h1,ae,aa h2]) h3
  ·exact h.elim
 | fd n off x=>
  simp only [qm] at h
  split at h
  ·rename_i cs hx
   split at h
   ·rename_i y hy
    exact .mk (by simp only [execOp,hx,hy,ae]) h
   ·exact h.elim
  ·exact h.elim
 | ia sz arr x i=>
  obtain ⟨j,r,h1,h2⟩:=Iu (x:=st.ev i) h
  exact aaL h1 h2
 | bo op bl x y=>exact aaH h
 | no x=>
  simp only [qm] at h
  split at h
  ·rename_i y hx
   exact .mk (by simp only [execOp,hx,qh,ae]) h
  ·exact h.elim
 | bs t sz es=>
  simp only [qm] at h
  split at h
  ·obtain ⟨h1,h2⟩:=cX h
   obtain ⟨vs,r,rfl,h3⟩:=oI h2
   exact .mk (by simp only [execOp,ae,h1,an]) h3
  ·exact h.elim
 | bd zs fs=>
  obtain ⟨h1,h2⟩:=cX h
  exact .mk (by simp only [execOp,h1,an]) h2
 | ms t sz by_ x n=>
  simp only [qm] at h
  split at h
  ·obtain ⟨m,r,h1,h2⟩:=Iu h
   obtain ⟨es,r2,h3,h4,rfl,h6⟩:=oI h2
   exact .mk (by simp only [execOp,ae,h1,h3,h4,oa,gT,an]) h6
  ·exact h.elim
 | sl t sz x lo hi=>exact aaK h
 | ex x i=>
  simp only [qm] at h
  split at h
  ·rename_i vs hx
   split at h
   ·rename_i y hy
    exact .mk (by simp only [execOp,hx,hy,ae]) h
   ·exact h.elim
  ·exact h.elim
 | mf f caps=>
  obtain ⟨h1,h2⟩:=cX h
  exact .mk (by simp only [execOp,h1,an]) h2
 | ca m f args=>
  obtain ⟨x,r,h1,h2⟩:=Lt h
  exact .mk h1 h2
 | cf m x args=>
  simp only [qm] at h
  split at h
  ·rename_i f caps hx
   obtain ⟨hg,h⟩:=cX h
   obtain ⟨x,r,h1,h2⟩:=Lt h
   exact .mk (by simp only [execOp,hx,aa (ob hg)];exact h1) h2
  ·exact h.elim
 | c2 f args=>
  obtain ⟨x,st',r,h1,h2⟩:=Lu h
  exact .mk h1 h2
 | d2 x args=>
  simp only [qm] at h
  split at h
  ·rename_i f caps hx
   split at h
   ·rename_i hg
    obtain ⟨x,st',r,h1,h2⟩:=Lu h
    exact .mk (by simp only [execOp,hx,aa (ob hg)];exact h1) h2
   ·rename_i hg
    obtain ⟨x,st',r,h1,h2⟩:=Lu h
    exact .mk (by simp only [execOp,hx,ab (zb hg)];exact h1) h2
  ·exact h.elim
 | c3 f args=>
  obtain ⟨x,r,h1,h2⟩:=Q7 h
  exact .mk h1 h2
 | d3 x args=>
  simp only [qm] at h
  split at h
  ·rename_i f caps hx
   obtain ⟨hg,h⟩:=cX h
   obtain ⟨x,r,h1,h2⟩:=Q7 h
   exact .mk (by simp only [execOp,hx,aa (ob hg)];exact h1) h2
  ·exact h.elim
 | cm t f args x=>exact (by simp only [qm] at h)
 | cr t f args=>
  simp only [qm] at h
  split at h
  ·rename_i dd
   obtain ⟨h1,h2,h3⟩:=cX h
   exact .mk (by simp only [execOp,ae,Io,h1,an,h2]) h3
  ·exact h.elim
 | ln str x=>
  simp only [qm] at h
  split at h
  ·rename_i l hx
   obtain ⟨h1,h2⟩:=cX h
   obtain ⟨n,r,h3,h4⟩:=vT h2
   exact .mk (by simp only [execOp,hx,h1,an,h3]) h4
  ·rename_i hx
   obtain ⟨h1,h2⟩:=cX h
   obtain ⟨t,es,r,h3,h4⟩:=JK h2
   obtain ⟨n,r,h5,h6⟩:=vT h4
   have hs:str=false:=by simpa using h1
   refine .mk (x:=.i .i64 n) (st':=st) ?_ h6
   have hsp:∀ kk o m s,st.ev x≠.sp kk o m s:=fun kk o m s e=>by rw [e] at h3;cases h3
   simp only [execOp,hs,bn,aI]
   simp only [h3,ae,h5]
 | ap t sz by_ x y=>
  simp only [qm] at h
  split at h
  ·obtain ⟨t',ys,r,h1,h2⟩:=JK h
   obtain ⟨es,st',r2,h3,h4⟩:=Np h2
   obtain ⟨z,r3,h5,h6,h7,rfl,h9⟩:=oI h4
   exact .mk (by simp only [execOp,ae,h1,h3,h5,h6,h7,oa,gT,an]) h9
  ·exact h.elim
 | nc x=>
  simp only [qm] at h
  split at h
  ·rename_i hx;exact .mk (by simp only [execOp,hx]) h
  ·rename_i hx;exact .mk (by simp only [execOp,hx]) h
  ·rename_i hx;exact .mk (by simp only [execOp,hx]) h
  ·exact h.elim
end
section
variable (G:qi)(Ω:dt)(E:Env)
abbrev KS:=St→AT→Prop
noncomputable def gW(st:St)(g:cF)(a:AT)(q:KS):Prop:=
 match g.g with
 | none=>qm G Ω E st g.d a g.o fun x st' a=>q (put st' g.d (eH g.fz x)) a
 | some (j,want)=>match ay st.fr j with
  | .b x=>JJ a fun y a=>(x==want)=y∧(match y with
   | true=>qm G Ω E st g.d a g.o fun x st' a=>q (put st' g.d (eH g.fz x)) a
   | false=>q (put st g.d .sk) a)
  | .sk=>q (put st g.d .sk) a
  | _=>False
def Fy(dp:Nat)(p:b6)(v:St)(q:Prop):Prop:=
 match p.p.o with
 | .st _ x y=>(match tX (v.ev y) with
  | false=>q
  | true=>match v.ev x with
   | .p k _=>k.dp=dp∧jh (p.vb==[k.d]&&(match y with
    | .t m=>p.cs==[m]
    | .c _=>false)) q
   | _=>False)
 | .ap _ _ _ x _=>jh (Iq (v.ev x)==(p.cs.length==2)) q
 | _=>q
theorem Nq{dp:Nat}{p:b6}{v:St}{q:Prop}(h:Fy dp p v q):er dp p v=true∧q:=by
 unfold Fy at h
 unfold er
 split at h
 ·rename_i n x y ho
  simp only [ho]
  split at h
  ·rename_i hy
   exact ⟨by rw [hy];rfl,h⟩
  ·rename_i hy
   split at h
   ·rename_i k off hx
    obtain ⟨h1,h2⟩:=h
    obtain ⟨h3,h4⟩:=cX h2
    refine ⟨?_,h4⟩
    rw [hy,hx]
    simp only [aB] at h3
    simp only [h1,oa,h3.1,pT,jl,gY]
    exact h3.2
   ·exact h.elim
 ·rename_i ho
  simp only [ho]
  exact cX h
 ·rename_i hne hna
  refine ⟨?_,h⟩
  split
  ·rename_i n x y ho
   exact (hne _ _ _ ho).elim
  ·rename_i ho
   exact (hna _ _ _ _ _ ho).elim
  ·rfl
noncomputable def Pp(st:St)(p:b6)(a:AT)(q:KS):Prop:=
 jh (lx (view p st) p.p.o) (Fy E.dp p (view p st) (qm G Ω E (view p st) p.p.d a p.p.o fun x v' a=>(ja E.dp p.nk x&&okB E.dp p.nb x)=true∧q ((effect p (x,v')).app st) a))
noncomputable def dW(st:St)(p:b6)(a:AT)(q:KS):Prop:=
 match p.lt with
 | true=>match p.p.g with
  | none=>Pp G Ω E st p a q
  | some (j,want)=>match ay st.fr j with
   | .b x=>JJ a fun y a=>(x==want)=y∧(match y with
    | true=>Pp G Ω E st p a q
    | false=>q ((⟨iF p.p.d .sk,[],[],none⟩:bZ).app st) a)
   | .sk=>q ((⟨iF p.p.d .sk,[],[],none⟩:bZ).app st) a
   | _=>False
 | false=>gW G Ω E st p.p a q
noncomputable def oX(kf kb:List Nat)(gs:List cF)(st:St):Option St:=(fK (call G Ω) Ω E st gs).map fun s=>s.aN kf kb
noncomputable def Fz(kf kb:List Nat)(gs:List b6)(st:St):Option St:=(jY (call G Ω) Ω E st gs).map fun s=>s.aN kf kb
def aaM(d:Option Nat)(m n:Nat)(d':Option Nat):Bool:=(match d,d' with
 | some x,some y=>x==y
 | none,none=>true
 | _,_=>false)&&m==n
noncomputable def C7(kf kb:List Nat):St→List cF→AT→KS→Prop
 | st,[],a,q=>q (st.aN kf kb) a
 | st,g::gs,a,q=>match a with
  | .jb d n b=>(match aaM g.d gs.length n d with
   | true=>jg b fun b=>match b with
    | .co (.jn X) r=>oX G Ω E kf kb (g::gs) st=some X∧q X r
    | _=>False
   | false=>gW G Ω E st g (.jb d n b) fun st a=>C7 kf kb st gs a q)
  | a=>gW G Ω E st g a fun st a=>C7 kf kb st gs a q
noncomputable def C8(kf kb:List Nat):St→List b6→AT→KS→Prop
 | st,[],a,q=>q (st.aN kf kb) a
 | st,p::ps,a,q=>match a with
  | .jb d n b=>(match aaM p.p.d ps.length n d with
   | true=>jg b fun b=>match b with
    | .co (.jn X) r=>Fz G Ω E kf kb (p::ps) st=some X∧q X r
    | _=>False
   | false=>dW G Ω E st p (.jb d n b) fun st a=>C8 kf kb st ps a q)
  | a=>dW G Ω E st p a fun st a=>C8 kf kb st ps a q
def xk(st:St)(p:uF)(a:AT)(q:KS):Prop:=
 match p with
 | .own d t=>match ay st.fr d with
  | .n=>q ((st.aX (.s d)).cS d (.o t [])) a
  | .o _ _=>q st a
  | _=>False
 | .fz d=>match ay st.fr d with
  | .o t es=>q (st.cS d (.l t es)) a
  | _=>False
 | .ownC d off t=>match ay st.fr d with
  | .p k o=>E.ro=false∧(Fu E st k a fun cs a=>match cs[o+off]? with
   | some .n=>uQ E (st.aX (.c k (o+off))) k (cs.set (o+off) (.o t [])) a q
   | some (.o _ _)=>q st a
   | _=>False)
  | _=>False
 | .fzC d off=>match ay st.fr d with
  | .p k o=>E.ro=false∧(Fu E st k a fun cs a=>match cs[o+off]? with
   | some (.o t es)=>uQ E st k (cs.set (o+off) (.l t es)) a q
   | _=>False)
  | _=>False
 | .fzB d agg=>match ay st.fr d with
  | .p k 0=>k.dp=E.dp∧(match aO st.bx k.d with
   | some cs=>jh (AV.bk cs) (match agg with
    | true=>q {(st.cS d (.e (.a cs) 0)) with bx:=st.bx.filter fun y=>y.1 !=k.d} a
    | false=>match cs with
     | [c]=>q {(st.cS d (.e c 0)) with bx:=st.bx.filter fun y=>y.1 !=k.d} a
     | _=>False)
   | none=>False)
  | _=>False
 | .qx d off nd sz=>match gb E st (.qx d off nd sz) with
  | some st'=>q st' a
  | none=>False
 | .unp d off=>match gb E st (.unp d off) with
  | some st'=>q st' a
  | none=>False
def Pq:St→List uF→AT→KS→Prop
 | st,[],a,q=>q st a
 | st,p::ps,a,q=>xk E st p a fun st a=>Pq st ps a q
abbrev KX:=aH→St→AT→Prop
noncomputable def cW:AC→St→AT→KX→Prop
 | .sk,st,a,q=>q .nrm st a
 | .rg pre ops kf kb,st,a,q=>Pq E st pre a fun st a=>C7 G Ω E kf kb st ops a fun st a=>q .nrm st a
 | .dg pre mks ops kf kb,st,a,q=>Pq E st pre a fun st a=>(mks.all (su E.dp st)&&ops.all (iG E.dp st))=true∧(C8 G Ω E kf kb st ops a fun st a=>q .nrm st a)
 | .sq x y,st,a,q=>cW x st a fun e st a=>match e with
  | .nrm=>cW y st a q
  | e=>q e st a
 | .ite c x y,st,a,q=>match st.ev c with
  | .b z=>JJ a fun w a=>z=w∧(match w with
   | true=>cW x st a q
   | false=>cW y st a q)
  | _=>False
 | .bl id x,st,a,q=>cW x st a fun e st a=>match e with
  | .ex id'=>if id'=id then q .nrm st a else q (.ex id') st a
  | e=>q e st a
 | .lp (.kp kf kb x),st,a,q=>Pn a fun e st' a=>run G Ω E (.lp (.kp kf kb x)) (st.aN kf kb)=some (e,st')∧q e st' a
 | .lp x,st,a,q=>Pn a fun e st' a=>run G Ω E (.lp x) st=some (e,st')∧q e st' a
 | .ex id,st,a,q=>q (.ex id) st a
 | .rt,st,a,q=>q .ret st a
 | .bad,_,_,_=>False
 | .ru g x y b,st,a,q=>Pn a fun e st' a=>run G Ω E (.ru g x y b) st=some (e,st')∧q e st' a
 | .kp kf kb x,st,a,q=>match a with
  | .fb b=>jg b fun b=>match b with
   | .co (.fr e st') r=>run G Ω E x (st.aN kf kb)=some (e,st')∧q e st' r
   | _=>False
  | _=>cW x (st.aN kf kb) a q
def GP(st:St)(x:AV)(a:AT)(q:AV→AT→Prop):Prop:=
 match x with
 | .o t es=>q (.l t es) a
 | .r (.s d)=>oo E st (.s d) a fun t es a=>q (.l t es) a
 | .r (.c k off)=>k.dp=E.dp∧(oo E st (.c k off) a fun t es a=>q (.l t es) a)
 | .v (.s d) lo len=>oo E st (.s d) a fun t es a=>Ax a fun es' a=>lo+len≤es.length∧(es.drop lo).take len=es'∧q (.l t es') a
 | .v (.c _ _) _ _=>False
 | .q _ _ _ _=>False
 | .w _ _ _=>False
 | .ag _ _=>False
 | .bp _ _ _=>False
 | x=>q x a
def Pr(st:St):List AV→AT→(List AV→AT→Prop)→Prop
 | [],a,q=>q [] a
 | x::xs,a,q=>GP E st x a fun y a=>Pr st xs a fun ys a=>q (y::ys) a
def Ps(st:St)(z:RV)(a:AT)(q:AV→AT→Prop):Prop:=
 match z with
 | .t n=>GP E st (ay st.fr n) a q
 | .r _=>False
 | .c n sz=>match ay st.fr n with
  | .p k off=>k.dp=E.dp∧(match aO st.bx k.d with
   | some cs=>match pick sz off cs with
    | some (.a ds)=>Pr E st ds a fun ds a=>q (.a ds) a
    | some y=>GP E st y a q
    | none=>False
   | none=>False)
  | _=>False
def Tn(st:St):List RV→AT→(List AV→Prop)→Prop
 | [],_,q=>q []
 | z::zs,a,q=>Ps E st z a fun y a=>Tn st zs a fun ys=>q (y::ys)
noncomputable def Lw(fn:bE)(ys:List AV)(hp:HP)(a:AT)(q:List AV→HP→Prop):Prop:=
 cW G Ω E fn.code ⟨jB 0 ys,[],hp⟩ a fun e st _=>match e with
  | .ex _=>False
  | _=>match fn.res with
   | [.t n]=>match ay st.fr n with
    | .p k 0=>k.dp=E.dp∧(match aO st.bx k.d with
     | some cs=>(cs.all xA)=true∧q cs st.hp
     | none=>False)
    | _=>False
   | _=>False
noncomputable def Pt(fn:bE)(ys:List AV)(hp:HP)(a:AT)(q:AV→HP→Prop):Prop:=
 cW G Ω E fn.code ⟨jB 0 ys,[],hp⟩ a fun e st a=>match e with
  | .ex _=>False
  | _=>Tn E st fn.res a fun xs=>jh (AV.bk xs) (q (N1 xs) st.hp)
end
section
variable {G:qi}{Ω:dt}{E:Env}
theorem VB{st:St}{g:cF}{a:AT}{q:KS}(h:gW G Ω E st g a q):∃ st' r,gP (call G Ω) Ω E st g=some st'∧q st' r:=by
 unfold gW at h
 split at h
 ·rename_i hg
  obtain ⟨x,st',r,h1,h2⟩:=Lv h
  exact ⟨_,r,by simp only [gP,hg,h1,ae],h2⟩
 ·rename_i j want hg
  split at h
  ·rename_i x hx
   obtain ⟨y,r,rfl,h⟩:=xQ h
   split at h
   ·rename_i hy
    obtain ⟨x',st',r,h1,h2⟩:=Lv h
    exact ⟨_,r,by simp only [gP,hg,hx,vQ,ae,hy,an,h1],h2⟩
   ·rename_i hy
    exact ⟨_,r,by simp only [gP,hg,hx,vQ,ae,hy,bn,aI],h⟩
  ·rename_i hx
   exact ⟨_,a,by simp only [gP,hg,hx,vQ,ae,bn,aI],h⟩
  ·exact h.elim
theorem Lx{st:St}{p:b6}{a:AT}{q:KS}(h:Pp G Ω E st p a q):∃ P r,jc (call G Ω) Ω E p (view p st)=some P∧q (P.app st) r:=by
 obtain ⟨h0,h⟩:=cX h
 obtain ⟨h1,h⟩:=Nq h
 obtain ⟨x,st',r,h2,h3,h4⟩:=Lv h
 exact ⟨_,r,by simp only [jc,h0,h1,gT,an,h2,ae,h3],h4⟩
theorem agC{st:St}{p:b6}{a:AT}{q:KS}(h:dW G Ω E st p a q):∃ st' r,ee (call G Ω) Ω E st p=some st'∧q st' r:=by
 unfold dW at h
 split at h
 ·rename_i hlt
  split at h
  ·rename_i hg
   obtain ⟨P,r,h1,h2⟩:=Lx h
   exact ⟨_,r,by simp only [ee,hlt,an,ed,hg,h1,ae],h2⟩
  ·rename_i j want hg
   split at h
   ·rename_i x hx
    obtain ⟨y,r,rfl,h⟩:=xQ h
    split at h
    ·rename_i hy
     obtain ⟨P,r,h1,h2⟩:=Lx h
     exact ⟨_,r,by simp only [ee,hlt,an,ed,hg,hx,vQ,hy,h1,ae],h2⟩
    ·rename_i hy
     exact ⟨_,r,by simp only [ee,hlt,an,ed,hg,hx,vQ,hy,ae,bn,aI],h⟩
   ·rename_i hx
    exact ⟨_,a,by simp only [ee,hlt,an,ed,hg,hx,vQ,ae,bn,aI],h⟩
   ·exact h.elim
 ·rename_i hlt
  obtain ⟨st',r,h1,h2⟩:=VB h
  exact ⟨st',r,by simp only [ee,hlt,bn,aI,h1],h2⟩
theorem Iv{kf kb:List Nat} : ∀ {gs:List cF}{st:St}{a:AT}{q:KS},C7 G Ω E kf kb st gs a q→∃ st' r,oX G Ω E kf kb gs st=some st'∧q st' r
 | [],st,a,q,h=>⟨_,a,rfl,h⟩
 | g::gs,st,a,q,h=>by
  have key:∀ a',(gW G Ω E st g a' fun st a=>C7 G Ω E kf kb st gs a q)→∃ st' r,oX G Ω E kf kb (g::gs) st=some st'∧q st' r:=by
   intro a' h
   obtain ⟨st1,r1,h1,h2⟩:=VB h
   obtain ⟨st2,r2,h3,h4⟩:=Iv h2
   exact ⟨st2,r2,by simp only [oX,fK,h1,ae];exact h3,h4⟩
  unfold C7 at h
  split at h
  ·split at h
   ·obtain ⟨b,h⟩:=fp h
    split at h
    ·exact ⟨_,_,h.1,h.2⟩
    ·exact h.elim
   ·exact key _ h
  ·exact key _ h
theorem Iw{kf kb:List Nat} : ∀ {gs:List b6}{st:St}{a:AT}{q:KS},C8 G Ω E kf kb st gs a q→∃ st' r,Fz G Ω E kf kb gs st=some st'∧q st' r
 | [],st,a,q,h=>⟨_,a,rfl,h⟩
 | g::gs,st,a,q,h=>by
  have key:∀ a',(dW G Ω E st g a' fun st a=>C8 G Ω E kf kb st gs a q)→∃ st' r,Fz G Ω E kf kb (g::gs) st=some st'∧q st' r:=by
   intro a' h
   obtain ⟨st1,r1,h1,h2⟩:=agC h
   obtain ⟨st2,r2,h3,h4⟩:=Iw h2
   exact ⟨st2,r2,by simp only [Fz,jY,h1,ae];exact h3,h4⟩
  unfold C8 at h
  split at h
  ·split at h
   ·obtain ⟨b,h⟩:=fp h
    split at h
    ·exact ⟨_,_,h.1,h.2⟩
    ·exact h.elim
   ·exact key _ h
  ·exact key _ h
theorem Tp{st:St}{p:uF}{a:AT}{q:KS}(h:xk E st p a q):∃ st' r,gb E st p=some st'∧q st' r:=by
 cases p with
 | own d t=>
  simp only [xk] at h
  split at h
  ·rename_i hx;exact ⟨_,a,by simp only [gb,hx],h⟩
  ·rename_i hx;exact ⟨_,a,by simp only [gb,hx],h⟩
  ·exact h.elim
 | fz d=>
  simp only [xk] at h
  split at h
  ·rename_i hx;exact ⟨_,a,by simp only [gb,hx],h⟩
  ·exact h.elim
 | ownC d off t=>
  simp only [xk] at h
  split at h
  ·rename_i k o hx
   obtain ⟨hro,h⟩:=h
   obtain ⟨cs,r,h1,h2⟩:=xC h
   split at h2
   ·rename_i hc
    obtain ⟨r',h3⟩:=q9 h2
    exact ⟨_,r',by simp only [gb,hx,xD hro,an,h1,ae,hc],h3⟩
   ·rename_i hc
    exact ⟨_,r,by simp only [gb,hx,xD hro,an,h1,ae,hc],h2⟩
   ·exact h2.elim
  ·exact h.elim
 | fzC d off=>
  simp only [xk] at h
  split at h
  ·rename_i k o hx
   obtain ⟨hro,h⟩:=h
   obtain ⟨cs,r,h1,h2⟩:=xC h
   split at h2
   ·rename_i t es hc
    obtain ⟨r',h3⟩:=q9 h2
    exact ⟨_,r',by simp only [gb,hx,xD hro,an,h1,ae,hc],h3⟩
   ·exact h2.elim
  ·exact h.elim
 | fzB d agg=>
  simp only [xk] at h
  split at h
  ·rename_i k hx
   obtain ⟨h1,h⟩:=h
   split at h
   ·rename_i cs hb
    obtain ⟨h2,h⟩:=cX h
    split at h
    ·exact ⟨_,a,by simp only [gb,hx,aa h1,hb,ae,aa h2,an],h⟩
    ·split at h
     ·exact ⟨_,a,by simp only [gb,hx,aa h1,hb,ae,aa h2,bn,aI],h⟩
     ·exact h.elim
   ·exact h.elim
  ·exact h.elim
 | qx d off nd sz=>
  simp only [xk] at h
  split at h
  ·rename_i st' h1;exact ⟨st',a,h1,h⟩
  ·exact h.elim
 | unp d off=>
  simp only [xk] at h
  split at h
  ·rename_i st' h1;exact ⟨st',a,h1,h⟩
  ·exact h.elim
theorem Ix:∀ {ps:List uF}{st:St}{a:AT}{q:KS},Pq E st ps a q→∃ st' r,qZ E st ps=some st'∧q st' r
 | [],st,a,q,h=>⟨st,a,rfl,h⟩
 | p::ps,st,a,q,h=>by
  obtain ⟨st1,r1,h1,h2⟩:=Tp h
  obtain ⟨st2,r2,h3,h4⟩:=Ix h2
  exact ⟨st2,r2,by simp only [qZ,h1,ae,h3],h4⟩
theorem vp:∀ (c:AC){st:St}{a:AT}{q:KX},cW G Ω E c st a q→∃ e st' r,run G Ω E c st=some (e,st')∧q e st' r
 | .sk,st,a,q,h=>⟨_,_,a,bB E st,by simpa only [cW] using h⟩
 | .rg pre ops kf kb,st,a,q,h=>by
  simp only [cW] at h
  obtain ⟨st1,r1,h1,h2⟩:=Ix h
  obtain ⟨st2,r2,h3,h4⟩:=Iv h2
  obtain ⟨st3,h5,rfl⟩:=dN.1 h3
  exact ⟨_,_,r2,by rw [Av,h1,ae,h5];rfl,h4⟩
 | .dg pre mks ops kf kb,st,a,q,h=>by
  simp only [cW] at h
  obtain ⟨st1,r1,h1,h0,h2⟩:=Ix h
  obtain ⟨st2,r2,h3,h4⟩:=Iw h2
  obtain ⟨st3,h5,rfl⟩:=dN.1 h3
  exact ⟨_,_,r2,by rw [GA,h1,ae,aa h0,h5];rfl,h4⟩
 | .sq x y,st,a,q,h=>by
  simp only [cW] at h
  obtain ⟨e,st1,r1,h1,h2⟩:=vp x h
  cases e with
  | nrm=>
   obtain ⟨e,st2,r2,h3,h4⟩:=vp y h2
   exact ⟨e,st2,r2,by rw [vS,h1];exact h3,h4⟩
  | ex id=>exact ⟨_,_,r1,by rw [vS,h1];rfl,h2⟩
  | ret=>exact ⟨_,_,r1,by rw [vS,h1];rfl,h2⟩
 | .ite c x y,st,a,q,h=>by
  simp only [cW] at h
  split at h
  ·rename_i z hc
   obtain ⟨w,r,rfl,h⟩:=xQ h
   cases z with
   | true=>
    obtain ⟨e,st1,r1,h1,h2⟩:=vp x h
    exact ⟨e,st1,r1,by rw [run_ite,hc];exact h1,h2⟩
   | false=>
    obtain ⟨e,st1,r1,h1,h2⟩:=vp y h
    exact ⟨e,st1,r1,by rw [run_ite,hc];exact h1,h2⟩
  ·exact h.elim
 | .bl id x,st,a,q,h=>by
  simp only [cW] at h
  obtain ⟨e,st1,r1,h1,h2⟩:=vp x h
  cases e with
  | nrm=>exact ⟨_,_,r1,by rw [sw,h1];rfl,h2⟩
  | ret=>exact ⟨_,_,r1,by rw [sw,h1];rfl,h2⟩
  | ex id'=>
   simp only at h2
   split at h2
   ·rename_i hi
    exact ⟨_,_,r1,by rw [sw,h1];simp only [ae,inBlock,hi,an],h2⟩
   ·rename_i hi
    exact ⟨_,_,r1,by rw [sw,h1];simp only [ae,inBlock,hi,aI],h2⟩
 | .lp x,st,a,q,h=>by
  cases x with
  | kp kf kb x=>
   simp only [cW] at h
   obtain ⟨e,st1,r1,h1,h2⟩:=It h
   refine ⟨e,st1,r1,?_,h2⟩
   exact (dF G Ω E ⟨kf,kb,x⟩ st).trans h1
  | _=>
   simp only [cW] at h
   obtain ⟨e,st1,r1,h1,h2⟩:=It h
   exact ⟨e,st1,r1,h1,h2⟩
 | .ex id,st,a,q,h=>⟨_,_,a,du E st id,by simpa only [cW] using h⟩
 | .ru g x y b,st,a,q,h=>by
  simp only [cW] at h
  obtain ⟨e,st1,r1,h1,h2⟩:=It h
  exact ⟨e,st1,r1,h1,h2⟩
 | .rt,st,a,q,h=>⟨_,_,a,ef E st,by simpa only [cW] using h⟩
 | .kp kf kb x,st,a,q,h=>by
  unfold cW at h
  split at h
  ·obtain ⟨b,h⟩:=fp h
   split at h
   ·exact ⟨_,_,_,by rw [jE];exact h.1,h.2⟩
   ·exact h.elim
  ·obtain ⟨e,st1,r1,h1,h2⟩:=vp x h
   exact ⟨e,st1,r1,by rw [jE];exact h1,h2⟩
theorem FA{st:St}{x:AV}{a:AT}{q:AV→AT→Prop}(h:GP E st x a q):∃ y r,st.oj E.dp x=some y∧q y r:=by
 unfold GP at h
 split at h
 ·exact ⟨_,a,rfl,h⟩
 ·obtain ⟨t,es,r,h1,h2⟩:=ik h
  exact ⟨_,r,by simp only [St.oj,h1,ae],h2⟩
 ·obtain ⟨h0,h⟩:=h
  obtain ⟨t,es,r,h1,h2⟩:=ik h
  exact ⟨_,r,by simp only [St.oj,aa h0,h1,ae],h2⟩
 ·obtain ⟨t,es,r,h1,h2⟩:=ik h
  obtain ⟨es',r,h3,rfl,h5⟩:=oI h2
  exact ⟨_,r,by simp only [St.oj,h1,ae,aa h3],h5⟩
 ·exact h.elim
 ·exact h.elim
 ·exact h.elim
 ·exact h.elim
 ·exact h.elim
 ·rename_i h1 h2 h3 h4 h5 h6 h7 h8 h9
  refine ⟨x,a,?_,h⟩
  unfold St.oj
  split
  ·exact (h1 _ _ rfl).elim
  ·exact (h2 _ rfl).elim
  ·exact (h3 _ _ rfl).elim
  ·exact (h4 _ _ _ rfl).elim
  ·exact (h7 _ _ _ rfl).elim
  ·exact (h8 _ _ rfl).elim
  ·exact (h9 _ _ _ rfl).elim
  ·rfl
theorem Ly{st:St} : ∀ {xs:List AV}{a:AT}{q:List AV→AT→Prop},Pr E st xs a q→∃ ys r,st.Ir E.dp xs=some ys∧q ys r
 | [],a,q,h=>⟨[],a,rfl,h⟩
 | x::xs,a,q,h=>by
  obtain ⟨y,r,h1,h2⟩:=FA h
  obtain ⟨ys,r2,h3,h4⟩:=Ly h2
  exact ⟨_,r2,by simp only [St.Ir,h1,h3,ae],h4⟩
theorem Tq{st:St}{z:RV}{a:AT}{q:AV→AT→Prop}(h:Ps E st z a q):∃ y r,st.xK E z=some y∧q y r:=by
 cases z with
 | t n=>exact FA h
 | r n=>exact h.elim
 | c n sz=>
  simp only [Ps] at h
  split at h
  ·rename_i k off hx
   obtain ⟨h0,h⟩:=h
   split at h
   ·rename_i cs hb
    split at h
    ·rename_i ds hp
     obtain ⟨ys,r,h1,h2⟩:=Ly h
     exact ⟨_,r,by simp only [St.xK,hx,aa h0,hb,hp,h1,ae],h2⟩
    ·rename_i y hy hp
     obtain ⟨z,r,h1,h2⟩:=FA h
     refine ⟨z,r,?_,h2⟩
     simp only [St.xK,hx,aa h0,hb,hp,ae,h1]
    ·exact h.elim
   ·exact h.elim
  ·exact h.elim
theorem Iy{st:St} : ∀ {zs:List RV}{a:AT}{q:List AV→Prop},Tn E st zs a q→∃ xs,st.qj E zs=some xs∧q xs
 | [],a,q,h=>⟨[],rfl,h⟩
 | z::zs,a,q,h=>by
  obtain ⟨y,r,h1,h2⟩:=Tq h
  obtain ⟨ys,h3,h4⟩:=Iy h2
  exact ⟨_,by simp only [St.qj,h1,h3,ae],h4⟩
theorem Tr{f:FuncId}{fn:bE}{ys:List AV}{hp:HP}{q:AV→HP→Prop}(hG:G f=some fn)(a:AT)(h:Pt G Ω E fn ys hp a q):∃ x hp',call G Ω E f ys hp=some (.ret x,hp')∧q x hp':=by
 obtain ⟨e,st,r,h1,h2⟩:=vp fn.code h
 cases e with
 | ex id=>exact h2.elim
 | nrm=>
  obtain ⟨xs,h3,h4⟩:=Iy h2
  obtain ⟨h5,h6⟩:=cX h4
  exact ⟨_,_,by rw [tL,hG,ae,h1];simp only [ae,St.end_,St.result,h3,h5,an],h6⟩
 | ret=>
  obtain ⟨xs,h3,h4⟩:=Iy h2
  obtain ⟨h5,h6⟩:=cX h4
  exact ⟨_,_,by rw [tL,hG,ae,h1];simp only [ae,St.end_,St.result,h3,h5,an],h6⟩
theorem aaN{st:St}{rs:List RV}{n:Nat}{k:Key}{cs:List AV}(h1:rs=[.t n])(h2:ay st.fr n= .p k 0)(h3:k.dp=E.dp)(h4:aO st.bx k.d=some cs)(h5:cs.all xA=true):st.end_ E rs=some (.new cs):=by
 subst h1
 have hr:st.result E [.t n]=none:=by simp [St.result,St.qj,St.xK,h2,St.oj,AV.bk,AV.pure]
 simp only [St.end_,hr,St.jZ,h2,aa h3,h4,ae,h5,an,fg]
theorem Q8{f:FuncId}{fn:bE}{ys:List AV}{hp:HP}{q:List AV→HP→Prop}(hG:G f=some fn)(a:AT)(h:Lw G Ω E fn ys hp a q):∃ cs hp',call G Ω E f ys hp=some (.new cs,hp')∧q cs hp':=by
 obtain ⟨e,st,r,h1,h2⟩:=vp fn.code h
 have key:∀ {P:Prop},(match fn.res with
   | [.t n]=>match ay st.fr n with
    | .p k 0=>k.dp=E.dp∧(match aO st.bx k.d with
     | some cs=>(cs.all xA)=true∧q cs st.hp
     | none=>False)
    | _=>False
   | _=>False)→(∀ cs,st.end_ E fn.res=some (.new cs)→q cs st.hp→P)→P:=by
  intro P h2 hP
  split at h2
  ·rename_i n hres
   split at h2
   ·rename_i k hk
    obtain ⟨h3,h4⟩:=h2
    split at h4
    ·rename_i cs hb
     exact hP cs (aaN hres hk h3 hb h4.1) h4.2
    ·exact h4.elim
   ·exact h2.elim
  ·exact h2.elim
 cases e with
 | ex id=>exact h2.elim
 | nrm=>exact key h2 fun cs h3 h4=>⟨cs,_,by rw [tL,hG,ae,h1];simp only [ae,h3],h4⟩
 | ret=>exact key h2 fun cs h3 h4=>⟨cs,_,by rw [tL,hG,ae,h1];simp only [ae,h3],h4⟩
theorem aaO{R:Type}{f:FuncId}{fn:bE}{ys:List AV}{hp:HP}{Y:R→bm×HP}{r:R}{T:Prop}(hG:G f=some fn)(a:AT)(h:T)(he:T=Lw G Ω E fn ys hp a fun y h=>(bm.new y,h)=Y r):call G Ω E f ys hp=some (Y r):=by
 obtain ⟨y,h',h1,h2⟩:=Q8 hG a (he▸h)
 rw [←h2];exact h1
theorem agD{R:Type}{f:FuncId}{fn:bE}{ys:List AV}{hp:HP}{Y:R→bm×HP}{r:R}{T:Prop}(hG:G f=some fn)(a:AT)(h:T)(he:T=Pt G Ω E fn ys hp a fun y h=>(bm.ret y,h)=Y r):call G Ω E f ys hp=some (Y r):=by
 obtain ⟨y,h',h1,h2⟩:=Tr hG a (he▸h)
 rw [←h2];exact h1
theorem runT{R:Type}{c:AC}{st:St}{Y:R→aH×St}{r:R}{T:Prop}(a:AT)(h:T)(he:T=cW G Ω E c st a fun e s _=>(e,s)=Y r):run G Ω E c st=some (Y r):=by
 obtain ⟨e,s,_,h1,h2⟩:=vp c (he▸h)
 rw [←h2];exact h1
theorem agE{R:Type}{kf kb:List Nat}{gs:List cF}{st:St}{Y:R→St}{r:R}{T:Prop}(a:AT)(h:T)(he:T=C7 G Ω E kf kb st gs a fun s _=>s=Y r):oX G Ω E kf kb gs st=some (Y r):=by
 obtain ⟨s,_,h1,h2⟩:=Iv (he▸h)
 rw [←h2];exact h1
theorem agF{R:Type}{kf kb:List Nat}{gs:List b6}{st:St}{Y:R→St}{r:R}{T:Prop}(a:AT)(h:T)(he:T=C8 G Ω E kf kb st gs a fun s _=>s=Y r):Fz G Ω E kf kb gs st=some (Y r):=by
 obtain ⟨s,_,h1,h2⟩:=Iw (he▸h)
 rw [←h2];exact h1
def VC(kf kb:List Nat):aH→St→St⊕(aH×St)
 | .nrm,s=>.inl (s.aN kf kb)
 | e,s=>.inr (e,s)
theorem ai{a b:Prop}(x:a)(y:b):a∧b:=⟨x,y⟩
theorem tt:true=true:=rfl
theorem gf:(false==true)=false:=rfl
theorem ht:(true==false)=false:=rfl
theorem hf:(false==false)=true:=rfl
abbrev W(w:List AV)(n:Nat):AV:=w.getD n .u
abbrev bt(r:AT):AT:=.co (.b true) r
abbrev bf(r:AT):AT:=.co (.b false) r
abbrev ao(x:N4)(r:AT):AT:=.co x r
theorem ff:false=false:=rfl
end
end Go.Proofs.YtkkkkondjclcnaaGreat.A
