/- Paths: what is told of a run (which way it goes, what an element is, what a call answers) gives what must be shown, and nothing else; all else is reckoned. -/
import Derived.Test.YtkkkkondjclcnaaGreatAbs3
import Derived.KernelRfl
set_option linter.all false
namespace Go.Proofs.YtkkkkondjclcnaaGreat.A
open Go
inductive Rl where
 | b (x:Bool)
 | n (x:Nat)
 | i (x:Int)
 | v (x:AV)
 | l (es:List AV)
 | s (x:List UInt8)
 | h (hp:HP)
 | bx (bs:List (Nat×List AV))
 | lp (e:aN) (st:St)
 | fr (e:aN) (st:St)
 | jn (st:St)
inductive AT:Type 1 where
 | nil
 | no
 | co (x:Rl) (r:AT)
 | or (a b:AT)
 | ex {α:Type} (f:α→AT)
 | jb (d:Option Nat) (n:Nat) (b:AT)
 | fb (b:AT)
def kH:AT→(AT→Prop)→Prop
 | .or a b,k=>kH a k∨kH b k
 | .ex f,k=>∃ x,kH (f x) k
 | .no,_=>False
 | a,k=>k a
theorem gR{k:AT→Prop} : ∀ {a:AT},kH a k→∃ b,k b
 | .or a b,h=>by
  rw [kH] at h
  rcases h with h | h
  ·exact gR h
  ·exact gR h
 | .ex f,h=>by
  rw [kH] at h
  obtain ⟨x,h⟩:=h
  exact gR h
 | .no,h=>h.elim
 | .nil,h=>⟨_,h⟩
 | .co _ _,h=>⟨_,h⟩
 | .jb _ _ _,h=>⟨_,h⟩
 | .fb _,h=>⟨_,h⟩
def Jv(a:AT)(k:Bool→AT→Prop):Prop:=kH a fun a=>match a with
 | .co (.b x) r=>k x r
 | _=>False
def tkN(a:AT)(k:Nat→AT→Prop):Prop:=kH a fun a=>match a with
 | .co (.n x) r=>k x r
 | _=>False
def Jw(a:AT)(k:Int→AT→Prop):Prop:=kH a fun a=>match a with
 | .co (.i x) r=>k x r
 | _=>False
def Oj(a:AT)(k:AV→AT→Prop):Prop:=kH a fun a=>match a with
 | .co (.v x) r=>k x r
 | _=>False
def BQ(a:AT)(k:List AV→AT→Prop):Prop:=kH a fun a=>match a with
 | .co (.l x) r=>k x r
 | _=>False
def tkS(a:AT)(k:List UInt8→AT→Prop):Prop:=kH a fun a=>match a with
 | .co (.s x) r=>k x r
 | _=>False
def Rm(a:AT)(k:HP→AT→Prop):Prop:=kH a fun a=>match a with
 | .co (.h x) r=>k x r
 | _=>False
def aeA(a:AT)(k:List (Nat×List AV)→AT→Prop):Prop:=kH a fun a=>match a with
 | .co (.bx x) r=>k x r
 | _=>False
def SI(a:AT)(k:aN→St→AT→Prop):Prop:=kH a fun a=>match a with
 | .co (.lp e st) r=>k e st r
 | _=>False
def kt(b:Bool)(p:Prop):Prop:=match b with
 | true=>p
 | false=>False
variable {a:AT}
theorem yB{k:Bool→AT→Prop}(h:Jv a k):∃ x r,k x r:=by
 obtain ⟨b,h⟩:=gR h
 split at h
 ·exact ⟨_,_,h⟩
 ·exact h.elim
theorem Uq{k:Nat→AT→Prop}(h:tkN a k):∃ x r,k x r:=by
 obtain ⟨b,h⟩:=gR h
 split at h
 ·exact ⟨_,_,h⟩
 ·exact h.elim
theorem yD{k:Int→AT→Prop}(h:Jw a k):∃ x r,k x r:=by
 obtain ⟨b,h⟩:=gR h
 split at h
 ·exact ⟨_,_,h⟩
 ·exact h.elim
theorem CQ{k:AV→AT→Prop}(h:Oj a k):∃ x r,k x r:=by
 obtain ⟨b,h⟩:=gR h
 split at h
 ·exact ⟨_,_,h⟩
 ·exact h.elim
theorem oX{k:List AV→AT→Prop}(h:BQ a k):∃ x r,k x r:=by
 obtain ⟨b,h⟩:=gR h
 split at h
 ·exact ⟨_,_,h⟩
 ·exact h.elim
theorem Ur{k:List UInt8→AT→Prop}(h:tkS a k):∃ x r,k x r:=by
 obtain ⟨b,h⟩:=gR h
 split at h
 ·exact ⟨_,_,h⟩
 ·exact h.elim
theorem FK{k:HP→AT→Prop}(h:Rm a k):∃ x r,k x r:=by
 obtain ⟨b,h⟩:=gR h
 split at h
 ·exact ⟨_,_,h⟩
 ·exact h.elim
theorem Y7{k:List (Nat×List AV)→AT→Prop}(h:aeA a k):∃ x r,k x r:=by
 obtain ⟨b,h⟩:=gR h
 split at h
 ·exact ⟨_,_,h⟩
 ·exact h.elim
theorem K3{k:aN→St→AT→Prop}(h:SI a k):∃ e st r,k e st r:=by
 obtain ⟨b,h⟩:=gR h
 split at h
 ·exact ⟨_,_,_,h⟩
 ·exact h.elim
theorem dA{b:Bool}{p:Prop}(h:kt b p):b=true∧p:=by
 cases b with
 | true=>exact ⟨rfl,h⟩
 | false=>exact h.elim
def Ok(x:AV)(a:AT)(k:Nat→AT→Prop):Prop:=match x with
 | .i _ n=>tkN a fun j r=>n=(j:Int)∧k j r
 | _=>False
theorem K4{x:AV}{k:Nat→AT→Prop}(h:Ok x a k):∃ j r,sX x=some j∧k j r:=by
 unfold Ok at h;split at h
 ·obtain ⟨j,r,h1,h2⟩:=Uq h
  subst h1
  exact ⟨j,r,by simp [sX],h2⟩
 ·exact h.elim
def Ik(E:Env)(st:St)(k:Key)(a:AT)(q:List AV→AT→Prop):Prop:=
 Jv a fun own r=>match own with
  | true=>k.dp=E.dp∧(match aE st.bx k.d with
   | some cs=>q cs r
   | none=>False)
  | false=>BQ r fun cs r=>k.dp≠E.dp∧st.hp k=some cs∧q cs r
theorem An{E:Env}{st:St}{k:Key}{q:List AV→AT→Prop}(h:Ik E st k a q):∃ cs r,st.box E.dp k=some cs∧q cs r:=by
 obtain ⟨own,r,h⟩:=yB h
 cases own with
 | true=>
  obtain ⟨h1,h2⟩:=h
  split at h2
  ·rename_i cs hb
   exact ⟨cs,r,by simp only [St.box,ab h1,hb],h2⟩
  ·exact h2.elim
 | false=>
  obtain ⟨cs,r,h1,h2,h3⟩:=oX h
  exact ⟨cs,r,by simp only [St.box,aa h1,h2],h3⟩
def wZ(E:Env)(st:St)(k:Key)(cs:List AV)(a:AT)(q:St→AT→Prop):Prop:=
 Jv a fun own r=>match own with
  | true=>k.dp=E.dp∧q {st with bx:=oU st.bx k.d cs} r
  | false=>Rm r fun hp r=>k.dp≠E.dp∧ar st.hp k cs=hp∧q {st with hp:=hp} r
variable {cs:List AV}
theorem s0{E:Env}{st:St}{k:Key}{q:St→AT→Prop}(h:wZ E st k cs a q):∃ r,q (st.aL E.dp k cs) r:=by
 obtain ⟨own,r,h⟩:=yB h
 cases own with
 | true=>
  obtain ⟨h1,h2⟩:=h
  exact ⟨r,by simp only [St.aL,ab h1];exact h2⟩
 | false=>
  obtain ⟨hp,r,h1,h2,h3⟩:=FK h
  subst h2
  exact ⟨r,by simp only [St.aL,aa h1];exact h3⟩
def p6(E:Env)(st:St)(pl:Pl)(a:AT)(q:TypeId→List AV→AT→Prop):Prop:=
 match pl with
 | .s d=>match au st.fr d with
  | .o t es=>q t es a
  | _=>False
 | .c k off=>Ik E st k a fun cs r=>match cs[off]? with
  | some (.o t es)=>q t es r
  | _=>False
variable {pl:Pl}
theorem jr{E:Env}{st:St}{q:TypeId→List AV→AT→Prop}(h:p6 E st pl a q):∃ t es r,st.rowAt E.dp pl=some (t,es)∧q t es r:=by
 unfold p6 at h
 split at h
 ·split at h
  ·rename_i t es hx
   exact ⟨t,es,a,by simp only [St.rowAt,hx],h⟩
  ·exact h.elim
 ·obtain ⟨cs,r,h1,h2⟩:=An h
  split at h2
  ·rename_i t es hx
   exact ⟨t,es,r,by simp only [St.rowAt,h1,hx],h2⟩
  ·exact h2.elim
def FL(E:Env)(st:St)(x:AV)(pl:Pl)(a:AT)(q:St→AT→Prop):Prop:=
 match pl with
 | .s d=>q (st.dC d x) a
 | .c k off=>Ik E st k a fun cs r=>wZ E st k (cs.set off x) r q
theorem FM{E:Env}{st:St}{x:AV}{q:St→AT→Prop}(h:FL E st x pl a q):∃ st' r,st.putAt E.dp x pl=some st'∧q st' r:=by
 unfold FL at h
 split at h
 ·exact ⟨_,a,rfl,h⟩
 ·obtain ⟨cs,r,h1,h2⟩:=An h
  obtain ⟨r',h3⟩:=s0 h2
  exact ⟨_,r',by simp only [St.putAt,h1],h3⟩
def GZ(sz:Nat)(es:List AV)(j:Nat)(a:AT)(q:AV→AT→Prop):Prop:=Oj a fun e r=>es[j]? =some e∧kt (e.nc==sz) (q e r)
variable {sz:Nat}{es:List AV}{j:Nat}
theorem AD{q:AV→AT→Prop}(h:GZ sz es j a q):∃ e r,es[j]? =some e∧e.nc=sz∧q e r:=by
 obtain ⟨e,r,h1,h2⟩:=CQ h
 obtain ⟨h3,h4⟩:=dA h2
 exact ⟨e,r,h1,by simpa using h3,h4⟩
theorem Ao{E:Env}(h:E.ro=false)(pl:Pl):pl.jM E=true:=by cases pl<;>simp [Pl.jM,h]
def We(E:Env):Pl→Prop
 | .s _=>(false:Bool)=false
 | .c _ _=>E.ro=false
theorem Rn{E:Env} : ∀ {pl:Pl},We E pl→pl.jM E=true
 | .s _,_=>rfl
 | .c _ _,h=>Ao h _
def Jy(E:Env)(st:St)(x:AV)(a:AT)(q:TypeId→List AV→AT→Prop):Prop:=
 match x with
 | .l t es=>q t es a
 | .n=>q 0 [] a
 | .o t es=>q t es a
 | .r pl=>p6 E st pl a q
 | .v pl lo len=>p6 E st pl a fun t es r=>BQ r fun C r=>lo+len≤es.length∧(es.drop lo).take len=C∧q t C r
 | _=>False
theorem Mt{E:Env}{st:St}{x:AV}{q:TypeId→List AV→AT→Prop}(h:Jy E st x a q):∃ t es r,st.elems E.dp x=some (t,es)∧q t es r:=by
 unfold Jy at h
 split at h
 ·exact ⟨_,_,a,rfl,h⟩
 ·exact ⟨_,_,a,rfl,h⟩
 ·exact ⟨_,_,a,rfl,h⟩
 ·obtain ⟨t,es,r,h1,h2⟩:=jr h
  exact ⟨t,es,r,h1,h2⟩
 ·obtain ⟨t,es,r,h1,h2⟩:=jr h
  obtain ⟨C,r',h3,h4,h5⟩:=oX h2
  subst h4
  exact ⟨t,_,r',by simp only [St.elems,h1,ab h3],h5⟩
 ·exact h.elim
def zM(E:Env)(st:St):List AV→AT→(List AV→List TypeId→AT→Prop)→Prop
 | [],a,q=>q [] [] a
 | x::xs,a,q=>(match x with
  | .o t es=>zM E st xs a fun ys ts r=>q (.l t es::ys) ([t]++ts) r
  | .r pl=>p6 E st pl a fun t es r=>zM E st xs r fun ys ts r=>q (.l t es::ys) ([t]++ts) r
  | .v pl lo len=>p6 E st pl a fun t es r=>BQ r fun C r=>lo+len≤es.length∧(es.drop lo).take len=C∧zM E st xs r fun ys ts r=>q (.l t C::ys) ([t]++ts) r
  | .w _ t x=>zM E st xs a fun ys ts r=>q (x::ys) ([t]++ts) r
  | x=>kt x.pure (zM E st xs a fun ys ts r=>q (x::ys) ([]++ts) r))
theorem vc{E:Env}{st:St} : ∀ {xs:List AV}{a:AT}{q:List AV→List TypeId→AT→Prop},zM E st xs a q→∃ ys ts r,st.fk E.dp xs=some (ys,ts)∧q ys ts r
 | [],a,q,h=>⟨[],[],a,rfl,h⟩
 | x::xs,a,q,h=>by
  unfold zM at h
  split at h
  ·obtain ⟨ys,ts,r,h1,h2⟩:=vc h
   exact ⟨_,_,r,by simp [St.fk,St.jl,h1],h2⟩
  ·obtain ⟨t,es,r,h1,h2⟩:=jr h
   obtain ⟨ys,ts,r,h3,h4⟩:=vc h2
   exact ⟨_,_,r,by simp [St.fk,St.jl,h1,h3],h4⟩
  ·obtain ⟨t,es,r,h1,h2⟩:=jr h
   obtain ⟨C,r,h3,h4,h5⟩:=oX h2
   obtain ⟨ys,ts,r,h6,h7⟩:=vc h5
   subst h4
   exact ⟨_,_,r,by simp [St.fk,St.jl,h1,h3,h6],h7⟩
  ·obtain ⟨ys,ts,r,h1,h2⟩:=vc h
   exact ⟨_,_,r,by simp [St.fk,St.jl,h1],h2⟩
  ·rename_i h1 h2 h3 hw
   obtain ⟨h4,h5⟩:=dA h
   obtain ⟨ys,ts,r,h6,h7⟩:=vc h5
   refine ⟨_,_,r,?_,h7⟩
   have:st.jl E.dp x=some (x,[]):=by
    unfold St.jl
    split
    ·exact (h1 _ _ rfl).elim
    ·exact (h2 _ rfl).elim
    ·exact (h3 _ _ _ rfl).elim
    ·exact (hw _ _ _ rfl).elim
    ·simp [AV.pure] at h4
    ·rw [ab (by simpa [AV.pure] using h4)]
    ·rw [ab h4]
   simp [St.fk,this,h6]
abbrev KW:=AV→St→AT→Prop
section
variable (G:sb)(Ω:ef)(E:Env)(st:St)(d:Option Nat)
def iaW(sz:Nat)(arr:Option Nat)(x:AV)(xo:aY)(j:Nat)(a:AT)(k:KW):Prop:=
 match arr with
 | some len=>j<len∧(match x with
  | .p kk o=>k (.p kk (o+j*sz)) st a
  | .e y o=>k (.e y (o+j*sz)) st a
  | _=>False)
 | none=>match x with
  | .l _ es=>GZ sz es j a fun e r=>k (.e e 0) st r
  | .o _ es=>match xo with
   | .t m=>GZ sz es j a fun _ r=>k (.q (.s m) j sz 0) st r
   | .c _=>False
  | .r pl=>p6 E st pl a fun _ es r=>GZ sz es j r fun _ r=>k (.q pl j sz 0) st r
  | .v pl lo len=>p6 E st pl a fun _ es r=>j<len∧lo+len≤es.length∧(GZ sz es (lo+j) r fun _ r=>k (.q pl (lo+j) sz 0) st r)
  | _=>False
def Wf(E:Env)(k:Key):Prop:=match E.ro with
 | false=>false=false
 | true=>k.dp=E.dp
theorem SJ{E:Env}{k:Key}(h:Wf E k)(off:Nat):(Pl.c k off).jM E=true:=by
 unfold Wf at h
 cases hr:E.ro with
 | false=>exact Ao hr _
 | true=>rw [hr] at h;simp [Pl.jM,h]
def boW(op:BinOp)(bl:Bool)(x y:AV)(a:AT)(k:KW):Prop:=
 match x,y with
 | .i ki m,.i ki' n=>if ki=ki' then
   match op with
   | .add=>Jw a fun r a=>ki.wrap (m+n)=r∧k (.i ki r) st a
   | .sub=>Jw a fun r a=>ki.wrap (m - n)=r∧k (.i ki r) st a
   | .mul=>Jw a fun r a=>ki.wrap (m*n)=r∧k (.i ki r) st a
   | .quo=>Jw a fun r a=>n≠0∧ki.wrap (m.tdiv n)=r∧k (.i ki r) st a
   | .rem=>Jw a fun r a=>n≠0∧m.tmod n=r∧k (.i ki r) st a
   | .or=>Jw a fun r a=>(if n>m then n else m)=r∧k (.i ki r) st a
   | .eql=>k (.b (m==n)) st a
   | .neq=>k (.b (m !=n)) st a
   | .lss=>k (.b (decide (m<n))) st a
   | .leq=>k (.b (decide (m≤n))) st a
   | .gtr=>k (.b (decide (n<m))) st a
   | .geq=>k (.b (decide (n≤m))) st a
   | _=>False
  else False
 | .b m,.b n=>match bl,op with
  | true,.eql=>k (.b (m==n)) st a
  | true,.neq=>k (.b (!(m==n))) st a
  | _,_=>False
 | .s m,.s n=>match op with
  | .add=>tkS a fun r a=>m.length+n.length≤4611686018427387904∧m++n=r∧k (.s r) st a
  | .eql=>k (.b (m==n)) st a
  | .neq=>k (.b (!(m==n))) st a
  | _=>False
 | _,_=>False
def ldW(n:Option Nat)(x:AV)(a:AT)(k:KW):Prop:=
 match x with
 | .p kk off=>Ik E st kk a fun cs a=>match pick n off cs with
  | some (.o _ _)=>k (.r (.c kk off)) st a
  | some y=>kt y.copy (k y st a)
  | none=>False
 | .e x off=>match pick n off x.cl with
  | some y=>k y st a
  | none=>False
 | .q pl i sz off=>p6 E st pl a fun _ es a=>GZ sz es i a fun e a=>match pick n off e.cl with
  | some y=>k y st a
  | none=>False
 | _=>False
def stW(n:Nat)(x y:AV)(yo:aY)(a:AT)(k:KW):Prop:=
 match x with
 | .p kk off=>Wf E kk∧(Ik E st kk a fun cs a=>match y with
  | .o t es=>match yo with
   | .t m=>kt (n==1&&decide (off<cs.length)) (wZ E ((st.dC m .u).bc (.c kk off)) kk (cs.set off (.o t es)) a fun st' a=>k .u st' a)
   | .c _=>False
  | .v pl lo len=>pl= .c kk off∧kt (lo==0&&n==1) (p6 E st pl a fun t es a=>BQ a fun C a=>len≤es.length∧es.take len=C∧(wZ E (st.bc (.c kk off)) kk (cs.set off (.o t C)) a fun st' a=>k .u st' a))
  | y=>y.deep kk.dp=true∧kt (y.copy&&y.nc==n&&y.cl.all AV.one&&decide (off+n≤cs.length)) (wZ E st kk (putCells cs off y.cl) a fun st' a=>k .u st' a))
 | .q pl i sz off=>E.ro=false∧(p6 E st pl a fun t es a=>Oj a fun e a=>es[i]? =some e∧kt (e.nc==sz&&y.pure&&y.nc==n&&y.cl.all AV.one&&decide (off+n≤sz)) (BQ a fun C a=>es.set i (D0 e off y.cl)=C∧(FL E st (.o t C) pl a fun st' a=>k .u st' a)))
 | _=>False
def Il(x:Option AV)(dflt:Nat)(a:AT)(k:Nat→AT→Prop):Prop:=
 match x with
 | none=>k dflt a
 | some y=>Ok y a k
def slW(t sz:Nat)(x:AV)(lo hi:Option AV)(a:AT)(k:KW):Prop:=
 match x with
 | .s l=>Il lo 0 a fun i a=>Il hi l.length a fun j a=>tkS a fun r a=>t=0∧i≤j∧j≤l.length∧(l.take j).drop i=r∧k (.s r) st a
 | .l t' es=>Il lo 0 a fun i a=>Il hi es.length a fun j a=>BQ a fun r a=>t≠0∧es.all (fun e=>e.nc==sz)=true∧i≤j∧j≤es.length∧(es.take j).drop i=r∧k (.l t' r) st a
 | .r pl=>p6 E st pl a fun t' es a=>Il lo 0 a fun i a=>Il hi es.length a fun j a=>tkN a fun m a=>kt (t !=0&&t'==t) (i≤j∧j≤es.length∧j - i=m∧k (.v pl i m) st a)
 | _=>False
def Im(t:TypeId)(x:aY)(a:AT)(k:List AV→St→AT→Prop):Prop:=
 match x with
 | .c .n=>k [] st a
 | .c _=>False
 | .t m=>match au st.fr m with
  | .n=>k [] st a
  | .o t' es=>kt (t'==t) (k es (st.dC m .u) a)
  | .r pl=>We E pl∧(p6 E st pl a fun t' es a=>kt (t'==t) (FL E st .u pl a fun st' a=>k es st' a))
  | .v pl lo len=>We E pl∧kt (lo==0) (p6 E st pl a fun t' es a=>BQ a fun C a=>len≤es.length∧t'=t∧es.take len=C∧(FL E st .u pl a fun st' a=>k C st' a))
  | _=>False
noncomputable def Us(m:Nat)(f:FuncId)(args:List AV)(a:AT)(k:KW):Prop:=
 match m with
 | 0=>zM E st args a fun ys ts a=>Oj a fun x a=>call G Ω ⟨0,false⟩ f ys (fun _=>none)=some (.ret x,fun _=>none)∧(match ts with
  | []=>kt x.pure (k x st a)
  | ts=>x.pure=true∧x.off ts=true∧k x st a)
 | 1=>zM E st args a fun ys ts a=>Oj a fun x a=>Ω f ys=some x∧(match ts with
  | []=>kt x.pure (k x st a)
  | ts=>x.pure=true∧x.off ts=true∧k x st a)
 | _=>False
noncomputable def Ut(f:FuncId)(args:List AV)(a:AT)(k:KW):Prop:=
 match args.all AV.cL with
 | true=>Us G Ω E st 0 f args a k
 | false=>E.ro=false∧(st.bx.all fun y=>AV.dt E.dp y.2)=true∧kt (args.all AV.copy) (Oj a fun x a=>Rm a fun h2 a=>aeA a fun bx a=>Rm a fun h3 a=>
  call G Ω ⟨E.dp+1,false⟩ f args (fun kk=>st.box E.dp kk)=some (.ret x,h2)∧bY E.dp h2 st.bx=bx∧(fun kk:Key=>if kk.dp<E.dp then h2 kk else none)=h3∧
  k x ⟨st.fr.map fun y=>(y.1,if iZ y.2=true then .u else y.2),bx,h3⟩ a)
noncomputable def c3W(f:FuncId)(args:List AV)(a:AT)(k:KW):Prop:=
 (st.bx.all fun y=>AV.dt E.dp y.2)=true∧kt (args.all AV.copy) (Oj a fun x a=>Rm a fun h2 a=>call G Ω ⟨E.dp+1,true⟩ f args (fun kk=>st.box E.dp kk)=some (.ret x,h2)∧kt x.pure (k x st a))
noncomputable def ckW(dd:Nat)(f:FuncId)(args:List AV)(a:AT)(k:KW):Prop:=
 kt (AV.aX args) (BQ a fun cs a=>Rm a fun h2 a=>call G Ω ⟨E.dp+1,false⟩ f args (fun _=>none)=some (.new cs,h2)∧(cs.all sW&&NG E.dp st dd)=true∧k (.p ⟨E.dp,dd⟩ 0) {st with bx:=(dd,cs)::st.bx} a)
noncomputable def qD(a:AT)(o:nY)(k:KW):Prop:=
 match o with
 | .mv x=>match st.ev x with
  | .o _ _=>match x with
   | .t n=>k (.r (.s n)) st a
   | .c _=>False
  | y=>k y st a
 | .as x=>match x with
  | .c y=>kt y.pure (k y st a)
  | .t n=>match au st.fr n with
   | .o t es=>match d with
    | some d=>k (.o t es) ((st.dC n .u).bc (.s d)) a
    | none=>False
   | .v pl lo len=>match d with
    | some d=>Jv a fun own a=>match own with
     | true=>pl= .s d∧kt (lo==0) (p6 E st pl a fun t es a=>BQ a fun C a=>len≤es.length∧es.take len=C∧k (.o t C) (st.bc (.s d)) a)
     | false=>(pl= .s d→(lo==0)=false)∧k (.v pl lo len) st a
    | none=>False
   | y=>kt (y.copy||GV y) (k y st a)
 | .pk c x y=>match st.ev c with
  | .b z=>Jv a fun w a=>z=w∧(match w with
   | true=>kt (st.ev x).copy (k (st.ev x) st a)
   | false=>kt (st.ev y).copy (k (st.ev y) st a))
  | _=>False
 | .bx x=>match d with
  | some d=>((st.ev x).deep E.dp&&(st.fr.all (fun y=>y.2.cb ⟨E.dp,d⟩)&&st.bx.all (fun y=>AV.dm ⟨E.dp,d⟩ y.2)))=true∧
   kt ((st.ev x).copy&&(st.ev x).cl.all AV.one&&ft st.bx d) (k (.p ⟨E.dp,d⟩ 0) {st with bx:=(d,(st.ev x).cl)::st.bx} a)
  | none=>False
 | .al zs=>match d with
  | some d=>(st.fr.all (fun y=>y.2.cb ⟨E.dp,d⟩)&&st.bx.all (fun y=>AV.dm ⟨E.dp,d⟩ y.2))=true∧kt (ft st.bx d) (k (.p ⟨E.dp,d⟩ 0) {st with bx:=(d,zs)::st.bx} a)
  | none=>False
 | .ld n x=>ldW E st n (st.ev x) a k
 | .st n x y=>stW E st n (st.ev x) (st.ev y) y a k
 | .fa off x=>match st.ev x with
  | .p kk o=>k (.p kk (o+off)) st a
  | .e y o=>k (.e y (o+off)) st a
  | .q pl i sz o=>p6 E st pl a fun _ es a=>i<es.length∧k (.q pl i sz (o+off)) st a
  | _=>False
 | .fd n off x=>match st.ev x with
  | .a cs=>match pick n off cs with
   | some y=>k y st a
   | none=>False
  | _=>False
 | .ia sz arr x i=>Ok (st.ev i) a fun j a=>iaW E st sz arr (st.ev x) x j a k
 | .bo op bl x y=>boW st op bl (st.ev x) (st.ev y) a k
 | .no x=>match st.ev x with
  | .b y=>k (.b (!y)) st a
  | _=>False
 | .ae ks ng x y=>match st.ev x,st.ev y with
  | .a xs,.a ys=>Jv a fun r a=>kr ks xs ys=some r∧k (.b (if ng then !r else r)) st a
  | _,_=>False
 | .bs t sz es=>match d with
  | some d=>kt ((es.map st.ev).all fun y=>y.pure&&y.cl.all AV.one&&y.nc==sz) (BQ a fun vs a=>es.map st.ev=vs∧k (.o t vs) (st.bc (.s d)) a)
  | none=>False
 | .bd zs fs=>kt (fs.all fun f=>(st.ev f.2.2).copy&&(st.ev f.2.2).nc==f.2.1&&(st.ev f.2.2).cl.all AV.one&&decide (f.1+f.2.1≤zs.length))
   (k (.a (fs.foldl (fun cs f=>putCells cs f.1 (st.ev f.2.2).cl) zs)) st a)
 | .ms t _ by_ x n=>match d with
  | some d=>Ok (st.ev n) a fun n a=>BQ a fun es a=>n*by_≤140737488355328∧n≤maxLen∧List.replicate n x=es∧k (.o t es) (st.bc (.s d)) a
  | none=>False
 | .sl t sz x lo hi=>slW E st t sz (st.ev x) (lo.map st.ev) (hi.map st.ev) a k
 | .ex x i=>match st.ev x with
  | .tp vs=>match vs[i]? with
   | some y=>k y st a
   | none=>False
  | _=>False
 | .mf f B=>kt (AV.nW (B.map st.ev)) (k (.f f (B.map st.ev)) st a)
 | .ca m f args=>Us G Ω E st m f (args.map st.ev) a k
 | .cf m x args=>match st.ev x with
  | .f f B=>kt (decide (f<1000000)) (Us G Ω E st m f (args.map st.ev++B) a k)
  | _=>False
 | .c2 f args=>Ut G Ω E st f (args.map st.ev) a k
 | .d2 x args=>match st.ev x with
  | .f f B=>match decide (f<1000000) with
   | true=>Ut G Ω E st f (args.map st.ev++B) a k
   | false=>Ut G Ω E st (f - 1000000) (B++args.map st.ev) a k
  | _=>False
 | .c3 f args=>c3W G Ω E st f (args.map st.ev) a k
 | .d3 x args=>match st.ev x with
  | .f f B=>kt (decide (f<1000000)) (c3W G Ω E st f (args.map st.ev++B) a k)
  | _=>False
 | .ck f args=>match d with
  | some dd=>ckW G Ω E st dd f (args.map st.ev) a k
  | none=>False
 | .cm _ _ _ _=>False
 | .cr t f args=>match d with
  | some dd=>kt (AV.aX (args.map st.ev)) (Ω f (args.map st.ev)=some (.o t [])∧k (.o t []) (st.bc (.s dd)) a)
  | none=>False
 | .ln str x=>match st.ev x with
  | .s l=>kt str (Jw a fun n a=>(l.length:Int)=n∧k (.i .i64 n) st a)
  | y=>kt (!str) (Jy E st y a fun _ es a=>Jw a fun n a=>(es.length:Int)=n∧k (.i .i64 n) st a)
 | .ap t sz by_ x y=>match d with
  | some d=>Jy E st (st.ev y) a fun _ ys a=>Im E st t x a fun es st' a=>BQ a fun r a=>
    ys.all (fun e=>e.nc==sz)=true∧(es.length+ys.length)*by_≤140737488355328∧es.length+ys.length≤maxLen∧es++ys=r∧k (.o t r) (st'.bc (.s d)) a
  | none=>False
 | .nc x=>match st.ev x with
  | .p kk o=>k (.p kk o) st a
  | .e y o=>k (.e y o) st a
  | .f g B=>k (.f g B) st a
  | _=>False
 | .ch _ _ _ _ _=>False
 | .lk _ _ _ _=>False
end
section
variable {G:sb}{Ω:ef}{E:Env}{st:St}{d:Option Nat}
def Told(o:nY)(k:KW)(G:sb)(Ω:ef)(E:Env)(st:St)(d:Option Nat):Prop:=∃ x st' r,execOp (call G Ω) Ω E st d o=some (x,st')∧k x st' r
theorem Told.mk{o:nY}{k:KW}{x:AV}{st':St}{r:AT}(h:execOp (call G Ω) Ω E st d o=some (x,st'))(hk:k x st' r):Told o k G Ω E st d:=⟨x,st',r,h,hk⟩
theorem BR{e:AV}{f:AV→AV}(h:es[j]? =some e)(hn:e.nc=sz):elemAt sz st es[j]? f=some (f e,st):=by
 rw [h];simp only [elemAt,ad,hn,az]
theorem aeH{op:BinOp}{bl:Bool}{x y:aY}{k:KW}(h:boW st op bl (st.ev x) (st.ev y) a k):Told (.bo op bl x y) k G Ω E st d:=by
 unfold boW at h
 split at h
 ·rename_i ki m ki' n hx hy
  split at h
  ·rename_i N
   subst N
   split at h
   ·obtain ⟨r,a',h1,h2⟩:=yD h
    exact .mk (by simp only [execOp,hx,hy,rn,az,u9,h1,ad]) h2
   ·obtain ⟨r,a',h1,h2⟩:=yD h
    exact .mk (by simp only [execOp,hx,hy,rn,az,u9,h1,ad]) h2
   ·obtain ⟨r,a',h1,h2⟩:=yD h
    exact .mk (by simp only [execOp,hx,hy,rn,az,u9,h1,ad]) h2
   ·obtain ⟨r,a',h0,h1,h2⟩:=yD h
    exact .mk (by simp only [execOp,hx,hy,rn,az,u9,aa h0,h1,ad]) h2
   ·obtain ⟨r,a',h0,h1,h2⟩:=yD h
    exact .mk (by simp only [execOp,hx,hy,rn,az,u9,aa h0,h1,ad]) h2
   ·obtain ⟨r,a',h1,h2⟩:=yD h
    exact .mk (by simp only [execOp,hx,hy,rn,az,u9,h1,ad]) h2
   ·exact .mk (by simp only [execOp,hx,hy,rn,az,u9,ad]) h
   ·exact .mk (by simp only [execOp,hx,hy,rn,az,u9,ad]) h
   ·exact .mk (by simp only [execOp,hx,hy,rn,az,u9,ad]) h
   ·exact .mk (by simp only [execOp,hx,hy,rn,az,u9,ad]) h
   ·exact .mk (by simp only [execOp,hx,hy,rn,az,u9,ad]) h
   ·exact .mk (by simp only [execOp,hx,hy,rn,az,u9,ad]) h
   ·exact h.elim
  ·exact h.elim
 ·rename_i m n hx hy
  split at h
  ·exact .mk (by simp only [execOp,hx,hy,rn,az,ad]) h
  ·exact .mk (by simp only [execOp,hx,hy,rn,az,ad]) h
  ·exact h.elim
 ·rename_i m n hx hy
  split at h
  ·obtain ⟨r,a',h0,h1,h2⟩:=Ur h
   exact .mk (by simp only [execOp,hx,hy,rn,ab h0,h1,ad]) h2
  ·exact .mk (by simp only [execOp,hx,hy,rn,ad]) h
  ·exact .mk (by simp only [execOp,hx,hy,rn,ad]) h
  ·exact h.elim
 ·exact h.elim
theorem aeI{n:Option Nat}{x:aY}{k:KW}(h:ldW E st n (st.ev x) a k):Told (.ld n x) k G Ω E st d:=by
 unfold ldW at h
 split at h
 ·rename_i kk off hx
  obtain ⟨cs,r,h1,h2⟩:=An h
  split at h2
  ·rename_i t es hp
   exact .mk (by simp only [execOp,hx,h1,hp,ad]) h2
  ·rename_i y hy hp
   obtain ⟨h3,h4⟩:=dA h2
   refine .mk (x:=y) (st':=st) ?_ h4
   simp only [execOp,hx,h1,hp,ad,ab h3]
  ·exact h2.elim
 ·rename_i y off hx
  split at h
  ·rename_i z hp
   exact .mk (by simp only [execOp,hx,hp,ad]) h
  ·exact h.elim
 ·rename_i pl i sz off hx
  obtain ⟨t,es,r,h1,h2⟩:=jr h
  obtain ⟨e,r',h3,h4,h5⟩:=AD h2
  split at h5
  ·rename_i z hp
   exact .mk (by simp only [execOp,hx,h1,h3,hp,h4,az,ad]) h5
  ·exact h5.elim
 ·exact h.elim
theorem aeJ{n:Nat}{x y:aY}{k:KW}(h:stW E st n (st.ev x) (st.ev y) y a k):Told (.st n x y) k G Ω E st d:=by
 unfold stW at h
 split at h
 ·rename_i kk off hx
  obtain ⟨D,h⟩:=h
  obtain ⟨cs,r,h1,h2⟩:=An h
  split at h2
  ·rename_i t es hy
   split at h2
   ·rename_i m
    obtain ⟨h3,h4⟩:=dA h2
    obtain ⟨r',h5⟩:=s0 h4
    exact .mk (by simp only [execOp,hx,SJ D _,az,h1,hy,ad,ab h3]) h5
   ·exact h2.elim
  ·rename_i pl lo len hy
   obtain ⟨rfl,h2⟩:=h2
   obtain ⟨h3,h4⟩:=dA h2
   obtain ⟨t,es,r1,h5,h6⟩:=jr h4
   obtain ⟨C,r2,h7,rfl,h9⟩:=oX h6
   obtain ⟨r',H⟩:=s0 h9
   simp only [aC] at h3
   exact .mk (by simp only [execOp,hx,SJ D _,az,h1,hy,ad,h3.1,h3.2,ji,rV,mQ,h5,ab h7,true_and,and_self]) H
  ·rename_i y' Q O
   obtain ⟨h0,h2⟩:=h2
   obtain ⟨h3,h4⟩:=dA h2
   obtain ⟨r',h5⟩:=s0 h4
   have h6:((st.ev y).copy&&(st.ev y).nc==n&&(st.ev y).cl.all AV.one&&(st.ev y).deep kk.dp&&decide (off+n≤cs.length))=true:=by
    simp only [aC] at h3 ⊢
    exact ⟨⟨h3.1,h0⟩,h3.2⟩
   refine .mk (x:=.u) (st':=st.aL E.dp kk (putCells cs off (st.ev y).cl)) ?_ h5
   simp only [execOp,hx,SJ D _,az,h1,ad,ab h6]
 ·rename_i pl i sz off hx
  obtain ⟨D,h⟩:=h
  obtain ⟨t,es,r,h1,h2⟩:=jr h
  obtain ⟨e,r1,h3,h4⟩:=CQ h2
  obtain ⟨h5,h6⟩:=dA h4
  obtain ⟨C,r2,rfl,h8⟩:=oX h6
  obtain ⟨st',r3,h9,H⟩:=FM h8
  exact .mk (by simp only [execOp,hx,Ao D,az,h1,h3,ad,ab h5,h9]) H
 ·exact h.elim
theorem Ap{x:Option aY}{dflt:Nat}{k:Nat→AT→Prop}(h:Il (x.map st.ev) dflt a k):∃ j r,pY st x dflt=some j∧k j r:=by
 cases x with
 | none=>exact ⟨dflt,a,rfl,h⟩
 | some y=>
  obtain ⟨j,r,h1,h2⟩:=K4 (x:=st.ev y) h
  exact ⟨j,r,h1,h2⟩
theorem aeK{t:Nat}{x:aY}{lo hi:Option aY}{k:KW}(h:slW E st t sz (st.ev x) (lo.map st.ev) (hi.map st.ev) a k):Told (.sl t sz x lo hi) k G Ω E st d:=by
 unfold slW at h
 split at h
 ·rename_i l hx
  obtain ⟨i,r1,h1,h2⟩:=Ap h
  obtain ⟨j,r2,h3,h4⟩:=Ap h2
  obtain ⟨z,r3,rfl,h5,h6,rfl,h8⟩:=Ur h4
  exact .mk (by simp [execOp,hx,h1,h3,h5,h6]) h8
 ·rename_i t' es hx
  obtain ⟨i,r1,h1,h2⟩:=Ap h
  obtain ⟨j,r2,h3,h4⟩:=Ap h2
  obtain ⟨z,r3,h0,K,h5,h6,rfl,h8⟩:=oX h4
  exact .mk (by simp only [execOp,hx,h1,h3,ad,K,uP,ne_eq,h0,BA,h5,h6,rV,uR,ji,az]) h8
 ·rename_i pl hx
  obtain ⟨t',es,r0,hr,h⟩:=jr h
  obtain ⟨i,r1,h1,h2⟩:=Ap h
  obtain ⟨j,r2,h3,h4⟩:=Ap h2
  obtain ⟨m,r3,h5⟩:=Uq h4
  obtain ⟨h6,h7,h8,rfl,H⟩:=dA h5
  exact .mk (by simp only [execOp,hx,hr,h1,h3,ad,h6,h7,h8,rV,ji,az]) H
 ·exact h.elim
theorem Qv{t:TypeId}{x:aY}{k:List AV→St→AT→Prop}(h:Im E st t x a k):∃ es st' r,consume E st t x=some (es,st')∧k es st' r:=by
 unfold Im at h
 split at h
 ·exact ⟨_,_,a,rfl,h⟩
 ·exact h.elim
 ·rename_i m
  split at h
  ·rename_i hx
   exact ⟨_,_,a,by simp only [consume,hx],h⟩
  ·rename_i t' es hx
   obtain ⟨h1,h2⟩:=dA h
   exact ⟨_,_,a,by simp only [consume,hx,ab (eh.1 h1)],h2⟩
  ·rename_i pl hx
   obtain ⟨D,h⟩:=h
   obtain ⟨t',es,r,h1,h2⟩:=jr h
   obtain ⟨h3,h4⟩:=dA h2
   obtain ⟨st',r',h5,h6⟩:=FM h4
   exact ⟨_,_,r',by simp only [consume,hx,Rn D,az,h1,ad,ab (eh.1 h3),h5],h6⟩
  ·rename_i pl lo len hx
   obtain ⟨D,h⟩:=h
   obtain ⟨h0,h⟩:=dA h
   obtain ⟨t',es,r,h1,h2⟩:=jr h
   obtain ⟨C,r2,h3,h4,rfl,h6⟩:=oX h2
   obtain ⟨st',r',h7,h8⟩:=FM h6
   exact ⟨_,_,r',by simp only [consume,hx,Rn D,h0,ji,az,h1,ad,ab (And.intro h3 h4),h7],h8⟩
  ·exact h.elim
theorem aeL{arr:Option Nat}{x i:aY}{k:KW}(hj:sX (st.ev i)=some j)(h:iaW E st sz arr (st.ev x) x j a k):Told (.ia sz arr x i) k G Ω E st d:=by
 unfold iaW at h
 split at h
 ·rename_i len
  obtain ⟨h1,h⟩:=h
  split at h
  ·rename_i kk o hx
   exact .mk (by simp only [execOp,hj,ad,ab h1,hx]) h
  ·rename_i y o hx
   exact .mk (by simp only [execOp,hj,ad,ab h1,hx]) h
  ·exact h.elim
 ·split at h
  ·rename_i t es hx
   obtain ⟨e,r,h1,h2,h3⟩:=AD h
   exact .mk (by simp only [execOp,hj,ad,hx];exact BR h1 h2) h3
  ·rename_i t es hx
   split at h
   ·rename_i m
    obtain ⟨e,r,h1,h2,h3⟩:=AD h
    exact .mk (by simp only [execOp,hj,ad,hx];exact BR h1 h2) h3
   ·exact h.elim
  ·rename_i pl hx
   obtain ⟨t,es,r0,h0,h⟩:=jr h
   obtain ⟨e,r,h1,h2,h3⟩:=AD h
   exact .mk (by simp only [execOp,hj,ad,hx,h0];exact BR h1 h2) h3
  ·rename_i pl lo len hx
   obtain ⟨t,es,r0,h0,h4,h5,h⟩:=jr h
   obtain ⟨e,r,h1,h2,h3⟩:=AD h
   exact .mk (by simp only [execOp,hj,ad,hx,ab h4,h0,ab h5];exact BR h1 h2) h3
  ·exact h.elim
theorem Ol{m:Nat}{f:FuncId}{args:List AV}{k:KW}(h:Us G Ω E st m f args a k):∃ x r,aF (call G Ω) Ω E st m f args=some (x,st)∧k x st r:=by
 unfold Us at h
 split at h
 ·obtain ⟨ys,ts,r,h1,h2⟩:=vc h
  obtain ⟨x,r1,h3,h4⟩:=CQ h2
  have h5:∃ b,(x.pure&&(ts.isEmpty||x.off ts))=true∧b=r1∧k x st b:=by
   split at h4
   ·obtain ⟨h5,h6⟩:=dA h4
    exact ⟨r1,by simp [h5],rfl,h6⟩
   ·exact ⟨r1,by simp [h4.1,h4.2.1],rfl,h4.2.2⟩
  obtain ⟨b,h6,rfl,h7⟩:=h5
  exact ⟨x,b,by simp only [aF,h1,ad,h3,h6,az],h7⟩
 ·obtain ⟨ys,ts,r,h1,h2⟩:=vc h
  obtain ⟨x,r1,h3,h4⟩:=CQ h2
  have h5:∃ b,(x.pure&&(ts.isEmpty||x.off ts))=true∧b=r1∧k x st b:=by
   split at h4
   ·obtain ⟨h5,h6⟩:=dA h4
    exact ⟨r1,by simp [h5],rfl,h6⟩
   ·exact ⟨r1,by simp [h4.1,h4.2.1],rfl,h4.2.2⟩
  obtain ⟨b,h6,rfl,h7⟩:=h5
  exact ⟨x,b,by simp only [aF,h1,ad,h3,h6,az],h7⟩
 ·exact h.elim
theorem Om{f:FuncId}{args:List AV}{k:KW}(h:Ut G Ω E st f args a k):∃ x st' r,bC (call G Ω) Ω E st f args=some (x,st')∧k x st' r:=by
 unfold Ut at h
 split at h
 ·rename_i hc
  obtain ⟨x,r,h1,h2⟩:=Ol h
  exact ⟨x,st,r,by rw [bC,ab hc];exact h1,h2⟩
 ·rename_i hc
  obtain ⟨h1,h2,h⟩:=h
  obtain ⟨h3,h⟩:=dA h
  obtain ⟨x,r1,h⟩:=CQ h
  obtain ⟨J,r2,h⟩:=FK h
  obtain ⟨bx,r3,h⟩:=Y7 h
  obtain ⟨Z,r4,h4,rfl,rfl,h5⟩:=FK h
  refine ⟨x,st.back E.dp J,r4,?_,h5⟩
  rw [bC,aa (by rw [hc];simp)]
  simp only [h1,h2,h3,Bool.not_false,ji,az,h4,ad]
theorem Uu{f:FuncId}{args:List AV}{k:KW}(h:c3W G Ω E st f args a k):∃ x r,iU (call G Ω) E st f args=some (x,st)∧k x st r:=by
 obtain ⟨h1,h⟩:=h
 obtain ⟨h2,h⟩:=dA h
 obtain ⟨x,r1,h⟩:=CQ h
 obtain ⟨J,r2,h3,h⟩:=FK h
 obtain ⟨h4,h5⟩:=dA h
 exact ⟨x,r2,by simp only [iU,h1,h2,ji,az,h3,ad,h4],h5⟩
theorem On{o:nY}{k:KW}(h:qD G Ω E st d a o k):Told o k G Ω E st d:=by
 cases o with
 | mv x=>
  simp only [qD] at h
  split at h
  ·rename_i t es hx
   split at h
   ·exact .mk (by simp only [execOp,hx]) h
   ·exact h.elim
  ·rename_i hx
   refine .mk (x:=st.ev x) (st':=st) ?_ h
   simp only [execOp]
 | as x=>
  cases x with
  | c y=>
   obtain ⟨h1,h2⟩:=dA h
   exact .mk (by simp only [execOp,h1,az]) h2
  | t n=>
   simp only [qD] at h
   split at h
   ·rename_i t es hx
    split at h
    ·exact .mk (by simp only [execOp,hx,ad]) h
    ·exact h.elim
   ·rename_i pl lo len hx
    split at h
    ·rename_i dd
     obtain ⟨own,r,h⟩:=yB h
     cases own with
     | true=>
      obtain ⟨rfl,h⟩:=h
      obtain ⟨h1,h⟩:=dA h
      obtain ⟨t,es,r1,h2,h⟩:=jr h
      obtain ⟨C,r2,h3,rfl,h5⟩:=oX h
      exact .mk (by simp only [execOp,hx,ad,h1,rV,ji,and_self,az,h2,ab h3]) h5
     | false=>
      obtain ⟨h1,h2⟩:=h
      refine .mk (x:=.v pl lo len) (st':=st) ?_ h2
      simp only [execOp,hx,ad]
      rw [aa]
      simp only [aC,eI]
      rintro ⟨h3,h4⟩
      rw [h1 h3] at h4
      cases h4
    ·exact h.elim
   ·rename_i U S
    obtain ⟨h1,h2⟩:=dA h
    refine .mk (x:=au st.fr n) (st':=st) ?_ h2
    simp only [execOp,ab h1]
 | pk c x y=>
  simp only [qD] at h
  split at h
  ·rename_i z hc
   obtain ⟨w,r,rfl,h⟩:=yB h
   cases z with
   | true=>
    obtain ⟨h1,h2⟩:=dA h
    exact .mk (by simp only [execOp,hc,qA,ad,az,h1]) h2
   | false=>
    obtain ⟨h1,h2⟩:=dA h
    exact .mk (by simp only [execOp,hc,qA,ad,bU,bB,h1,az]) h2
  ·exact h.elim
 | bx x=>
  simp only [qD] at h
  split at h
  ·rename_i dd
   obtain ⟨h1,h⟩:=h
   obtain ⟨h2,h3⟩:=dA h
   simp only [aC] at h1 h2
   exact .mk (by simp only [execOp,ad,h1.1,h1.2.1,h1.2.2,h2.1.1,h2.1.2,h2.2,ji,az]) h3
  ·exact h.elim
 | al zs=>
  simp only [qD] at h
  split at h
  ·rename_i dd
   obtain ⟨h1,h⟩:=h
   obtain ⟨h2,h3⟩:=dA h
   simp only [aC] at h1
   exact .mk (by simp only [execOp,ad,h1.1,h1.2,h2,ji,az]) h3
  ·exact h.elim
 | ld n x=>exact aeI h
 | st n x y=>exact aeJ h
 | fa off x=>
  simp only [qD] at h
  split at h
  ·rename_i hx;exact .mk (by simp only [execOp,hx]) h
  ·rename_i hx;exact .mk (by simp only [execOp,hx]) h
  ·rename_i hx
   obtain ⟨t,es,r,h1,h2,h3⟩:=jr h
   exact .mk (by simp only [execOp,hx,h1,ad,ab h2]) h3
  ·exact h.elim
 | fd n off x=>
  simp only [qD] at h
  split at h
  ·rename_i cs hx
   split at h
   ·rename_i y hy
    exact .mk (by simp only [execOp,hx,hy,ad]) h
   ·exact h.elim
  ·exact h.elim
 | ia sz arr x i=>
  obtain ⟨j,r,h1,h2⟩:=K4 (x:=st.ev i) h
  exact aeL h1 h2
 | bo op bl x y=>exact aeH h
 | no x=>
  simp only [qD] at h
  split at h
  ·rename_i y hx
   exact .mk (by simp only [execOp,hx,qA,ad]) h
  ·exact h.elim
 | ae ks ng x y=>
  simp only [qD] at h
  split at h
  ·rename_i hx hy
   obtain ⟨r,a',h1,h2⟩:=yB h
   exact .mk (by simp only [execOp,hx,hy,h1,ad]) h2
  ·exact h.elim
 | bs t sz es=>
  simp only [qD] at h
  split at h
  ·obtain ⟨h1,h2⟩:=dA h
   obtain ⟨vs,r,rfl,h3⟩:=oX h2
   exact .mk (by simp only [execOp,ad,h1,az]) h3
  ·exact h.elim
 | bd zs fs=>
  obtain ⟨h1,h2⟩:=dA h
  exact .mk (by simp only [execOp,h1,az]) h2
 | ms t sz by_ x n=>
  simp only [qD] at h
  split at h
  ·obtain ⟨m,r,h1,h2⟩:=K4 h
   obtain ⟨es,r2,h3,h4,rfl,h6⟩:=oX h2
   exact .mk (by simp only [execOp,ad,h1,h3,h4,rV,ji,az]) h6
  ·exact h.elim
 | sl t sz x lo hi=>exact aeK h
 | ex x i=>
  simp only [qD] at h
  split at h
  ·rename_i vs hx
   split at h
   ·rename_i y hy
    exact .mk (by simp only [execOp,hx,hy,ad]) h
   ·exact h.elim
  ·exact h.elim
 | mf f B=>
  obtain ⟨h1,h2⟩:=dA h
  exact .mk (by simp only [execOp,h1,az]) h2
 | ca m f args=>
  obtain ⟨x,r,h1,h2⟩:=Ol h
  exact .mk h1 h2
 | cf m x args=>
  simp only [qD] at h
  split at h
  ·rename_i f B hx
   obtain ⟨hg,h⟩:=dA h
   obtain ⟨x,r,h1,h2⟩:=Ol h
   exact .mk (by simp only [execOp,hx,ab (rW hg)];exact h1) h2
  ·exact h.elim
 | c2 f args=>
  obtain ⟨x,st',r,h1,h2⟩:=Om h
  exact .mk h1 h2
 | d2 x args=>
  simp only [qD] at h
  split at h
  ·rename_i f B hx
   split at h
   ·rename_i hg
    obtain ⟨x,st',r,h1,h2⟩:=Om h
    exact .mk (by simp only [execOp,hx,ab (rW hg)];exact h1) h2
   ·rename_i hg
    obtain ⟨x,st',r,h1,h2⟩:=Om h
    exact .mk (by simp only [execOp,hx,aa (BB hg)];exact h1) h2
  ·exact h.elim
 | c3 f args=>
  obtain ⟨x,r,h1,h2⟩:=Uu h
  exact .mk h1 h2
 | d3 x args=>
  simp only [qD] at h
  split at h
  ·rename_i f B hx
   obtain ⟨hg,h⟩:=dA h
   obtain ⟨x,r,h1,h2⟩:=Uu h
   exact .mk (by simp only [execOp,hx,ab (rW hg)];exact h1) h2
  ·exact h.elim
 | ck f args=>
  simp only [qD] at h
  split at h
  ·rename_i dd
   obtain ⟨h1,h⟩:=dA h
   obtain ⟨cs,r1,h⟩:=oX h
   obtain ⟨J,r2,h4,h5,h6⟩:=FK h
   exact .mk (by simp only [execOp,ad,Am,h1,az,h4,h5]) h6
  ·exact h.elim
 | cm t f args x=>exact (by simp only [qD] at h)
 | cr t f args=>
  simp only [qD] at h
  split at h
  ·rename_i dd
   obtain ⟨h1,h2,h3⟩:=dA h
   exact .mk (by simp only [execOp,ad,KY,h1,az,h2]) h3
  ·exact h.elim
 | ln str x=>
  simp only [qD] at h
  split at h
  ·rename_i l hx
   obtain ⟨h1,h2⟩:=dA h
   obtain ⟨n,r,h3,h4⟩:=yD h2
   exact .mk (by simp only [execOp,hx,h1,az,h3]) h4
  ·rename_i hx
   obtain ⟨h1,h2⟩:=dA h
   obtain ⟨t,es,r,h3,h4⟩:=Mt h2
   obtain ⟨n,r,h5,h6⟩:=yD h4
   have hs:str=false:=by simpa using h1
   refine .mk (x:=.i .i64 n) (st':=st) ?_ h6
   have V:∀ kk o m s,st.ev x≠.sp kk o m s:=fun kk o m s e=>by rw [e] at h3;cases h3
   simp only [execOp,hs,bU,bB]
   simp only [h3,ad,h5]
 | ap t sz by_ x y=>
  simp only [qD] at h
  split at h
  ·obtain ⟨t',ys,r,h1,h2⟩:=Mt h
   obtain ⟨es,st',r2,h3,h4⟩:=Qv h2
   obtain ⟨z,r3,h5,h6,h7,rfl,h9⟩:=oX h4
   exact .mk (by simp only [execOp,ad,h1,h3,h5,h6,h7,rV,ji,az]) h9
  ·exact h.elim
 | nc x=>
  simp only [qD] at h
  split at h
  ·rename_i hx;exact .mk (by simp only [execOp,hx]) h
  ·rename_i hx;exact .mk (by simp only [execOp,hx]) h
  ·rename_i hx;exact .mk (by simp only [execOp,hx]) h
  ·exact h.elim
 | ch f args sl dl ow=>exact (show False from h).elim
 | lk n x y lv=>exact (show False from h).elim
end
section
variable (G:sb)(Ω:ef)(E:Env)
abbrev KS:=St→AT→Prop
noncomputable def gW(st:St)(g:de)(a:AT)(q:KS):Prop:=
 match g.g with
 | none=>qD G Ω E st g.d a g.o fun x st' a=>q (put st' g.d (eV g.fz x)) a
 | some (j,want)=>match au st.fr j with
  | .b x=>Jv a fun y a=>(x==want)=y∧(match y with
   | true=>qD G Ω E st g.d a g.o fun x st' a=>q (put st' g.d (eV g.fz x)) a
   | false=>q (put st g.d .sk) a)
  | .sk=>q (put st g.d .sk) a
  | _=>False
def Io(dp:Nat)(p:br)(v:St)(q:Prop):Prop:=
 match p.p.o with
 | .st _ x y=>(match pJ (v.ev y) with
  | false=>q
  | true=>match v.ev x with
   | .p k _=>k.dp=dp∧kt (p.vb==[k.d]&&(match y with
    | .t m=>p.cs==[m]
    | .c _=>false)) q
   | _=>False)
 | .ap _ _ _ x _=>kt (K0 (v.ev x)==(p.cs.length==2)) q
 | _=>q
theorem Qw{dp:Nat}{p:br}{v:St}{q:Prop}(h:Io dp p v q):df dp p v=true∧q:=by
 unfold Io at h
 unfold df
 split at h
 ·rename_i n x y ho
  simp only [ho]
  split at h
  ·rename_i hy
   exact ⟨by rw [hy];rfl,h⟩
  ·rename_i hy
   split at h
   ·rename_i k off hx
    obtain ⟨h1,h2⟩:=h
    obtain ⟨h3,h4⟩:=dA h2
    refine ⟨?_,h4⟩
    rw [hy,hx]
    simp only [aC] at h3
    simp only [h1,rV,h3.1,uS,pS,mQ]
    exact h3.2
   ·exact h.elim
 ·rename_i ho
  simp only [ho]
  exact dA h
 ·rename_i L M
  refine ⟨?_,h⟩
  split
  ·rename_i n x y ho
   exact (L _ _ _ ho).elim
  ·rename_i ho
   exact (M _ _ _ _ _ ho).elim
  ·rfl
noncomputable def SK(st:St)(p:br)(a:AT)(q:KS):Prop:=
 kt (kR (view p st) p.p.o) (Io E.dp p (view p st) (qD G Ω E (view p st) p.p.d a p.p.o fun x v' a=>(gv E.dp p.nk x&&okB E.dp p.nb x)=true∧q ((effect p (x,v')).app st) a))
noncomputable def dW(st:St)(p:br)(a:AT)(q:KS):Prop:=
 match p.lt with
 | true=>match p.p.g with
  | none=>SK G Ω E st p a q
  | some (j,want)=>match au st.fr j with
   | .b x=>Jv a fun y a=>(x==want)=y∧(match y with
    | true=>SK G Ω E st p a q
    | false=>q ((⟨jO p.p.d .sk,[],[],none⟩:bL).app st) a)
   | .sk=>q ((⟨jO p.p.d .sk,[],[],none⟩:bL).app st) a
   | _=>False
 | false=>gW G Ω E st p.p a q
noncomputable def uc(kf kb:List Nat)(gs:List de)(st:St):Option St:=(iq (call G Ω) Ω E st gs).map fun s=>s.aG kf kb
noncomputable def K5(kf kb:List Nat)(gs:List br)(st:St):Option St:=(lC (call G Ω) Ω E st gs).map fun s=>s.aG kf kb
def aeM(d:Option Nat)(m n:Nat)(d':Option Nat):Bool:=(match d,d' with
 | some x,some y=>x==y
 | none,none=>true
 | _,_=>false)&&m==n
noncomputable def FN(kf kb:List Nat):St→List de→AT→KS→Prop
 | st,[],a,q=>q (st.aG kf kb) a
 | st,g::gs,a,q=>match a with
  | .jb d n b=>(match aeM g.d gs.length n d with
   | true=>kH b fun b=>match b with
    | .co (.jn X) r=>uc G Ω E kf kb (g::gs) st=some X∧q X r
    | _=>False
   | false=>gW G Ω E st g (.jb d n b) fun st a=>FN kf kb st gs a q)
  | a=>gW G Ω E st g a fun st a=>FN kf kb st gs a q
noncomputable def FO(kf kb:List Nat):St→List br→AT→KS→Prop
 | st,[],a,q=>q (st.aG kf kb) a
 | st,p::ps,a,q=>match a with
  | .jb d n b=>(match aeM p.p.d ps.length n d with
   | true=>kH b fun b=>match b with
    | .co (.jn X) r=>K5 G Ω E kf kb (p::ps) st=some X∧q X r
    | _=>False
   | false=>dW G Ω E st p (.jb d n b) fun st a=>FO kf kb st ps a q)
  | a=>dW G Ω E st p a fun st a=>FO kf kb st ps a q
def zN(st:St)(p:wM)(a:AT)(q:KS):Prop:=
 match p with
 | .own d t=>match au st.fr d with
  | .n=>q ((st.bc (.s d)).dC d (.o t [])) a
  | .o _ _=>q st a
  | _=>False
 | .fz d=>match au st.fr d with
  | .o t es=>q (st.dC d (.l t es)) a
  | _=>False
 | .ownC d off t=>match au st.fr d with
  | .p k o=>E.ro=false∧(Ik E st k a fun cs a=>match cs[o+off]? with
   | some .n=>wZ E (st.bc (.c k (o+off))) k (cs.set (o+off) (.o t [])) a q
   | some (.o _ _)=>q st a
   | _=>False)
  | _=>False
 | .fzC d off=>match au st.fr d with
  | .p k o=>E.ro=false∧(Ik E st k a fun cs a=>match cs[o+off]? with
   | some (.o t es)=>wZ E st k (cs.set (o+off) (.l t es)) a q
   | _=>False)
  | _=>False
 | .fzB d agg=>match au st.fr d with
  | .p k 0=>k.dp=E.dp∧(match aE st.bx k.d with
   | some cs=>kt (AV.aX cs) (match agg with
    | true=>q {(st.dC d (.e (.a cs) 0)) with bx:=st.bx.filter fun y=>y.1 !=k.d} a
    | false=>match cs with
     | [c]=>q {(st.dC d (.e c 0)) with bx:=st.bx.filter fun y=>y.1 !=k.d} a
     | _=>False)
   | none=>False)
  | _=>False
 | .o0 d off nd sz=>match iE E st (.o0 d off nd sz) with
  | some st'=>q st' a
  | none=>False
 | .unp d off=>match iE E st (.unp d off) with
  | some st'=>q st' a
  | none=>False
def SL:St→List wM→AT→KS→Prop
 | st,[],a,q=>q st a
 | st,p::ps,a,q=>zN E st p a fun st a=>SL st ps a q
abbrev KX:=aN→St→AT→Prop
noncomputable def cW:AC→St→AT→KX→Prop
 | .sk,st,a,q=>q .nrm st a
 | .rg pre ops kf kb,st,a,q=>SL E st pre a fun st a=>FN G Ω E kf kb st ops a fun st a=>q .nrm st a
 | .dg pre mks ops kf kb,st,a,q=>SL E st pre a fun st a=>(mks.all (um E.dp st)&&ops.all (fT E.dp st))=true∧(FO G Ω E kf kb st ops a fun st a=>q .nrm st a)
 | .sq x y,st,a,q=>cW x st a fun e st a=>match e with
  | .nrm=>cW y st a q
  | e=>q e st a
 | .ite c x y,st,a,q=>match st.ev c with
  | .b z=>Jv a fun w a=>z=w∧(match w with
   | true=>cW x st a q
   | false=>cW y st a q)
  | _=>False
 | .bl id x,st,a,q=>cW x st a fun e st a=>match e with
  | .ex id'=>if id'=id then q .nrm st a else q (.ex id') st a
  | e=>q e st a
 | .lp (.kp kf kb x),st,a,q=>SI a fun e st' a=>run G Ω E (.lp (.kp kf kb x)) (st.aG kf kb)=some (e,st')∧q e st' a
 | .lp x,st,a,q=>SI a fun e st' a=>run G Ω E (.lp x) st=some (e,st')∧q e st' a
 | .ex id,st,a,q=>q (.ex id) st a
 | .rt,st,a,q=>q .ret st a
 | .bad,_,_,_=>False
 | .ru g x y b,st,a,q=>SI a fun e st' a=>run G Ω E (.ru g x y b) st=some (e,st')∧q e st' a
 | .kp kf kb x,st,a,q=>match a with
  | .fb b=>kH b fun b=>match b with
   | .co (.fr e st') r=>run G Ω E x (st.aG kf kb)=some (e,st')∧q e st' r
   | _=>False
  | _=>cW x (st.aG kf kb) a q
def Jz(st:St)(x:AV)(a:AT)(q:AV→AT→Prop):Prop:=
 match x with
 | .o t es=>q (.l t es) a
 | .r (.s d)=>p6 E st (.s d) a fun t es a=>q (.l t es) a
 | .r (.c k off)=>k.dp=E.dp∧(p6 E st (.c k off) a fun t es a=>q (.l t es) a)
 | .v (.s d) lo len=>p6 E st (.s d) a fun t es a=>BQ a fun C a=>lo+len≤es.length∧(es.drop lo).take len=C∧q (.l t C) a
 | .v (.c _ _) _ _=>False
 | .q _ _ _ _=>False
 | .w _ _ _=>False
 | .ag _ _=>False
 | .bp _ _ _=>False
 | x=>q x a
def SM(st:St):List AV→AT→(List AV→AT→Prop)→Prop
 | [],a,q=>q [] a
 | x::xs,a,q=>Jz E st x a fun y a=>SM st xs a fun ys a=>q (y::ys) a
def SN(st:St)(z:RV)(a:AT)(q:AV→AT→Prop):Prop:=
 match z with
 | .t n=>Jz E st (au st.fr n) a q
 | .r _=>False
 | .c n sz=>match au st.fr n with
  | .p k off=>k.dp=E.dp∧(match aE st.bx k.d with
   | some cs=>match pick sz off cs with
    | some (.a ds)=>SM E st ds a fun ds a=>q (.a ds) a
    | some y=>Jz E st y a q
    | none=>False
   | none=>False)
  | _=>False
def Wg(st:St):List RV→AT→(List AV→Prop)→Prop
 | [],_,q=>q []
 | z::zs,a,q=>SN E st z a fun y a=>Wg st zs a fun ys=>q (y::ys)
noncomputable def Oo(fn:bE)(ys:List AV)(hp:HP)(a:AT)(q:List AV→HP→Prop):Prop:=
 cW G Ω E fn.code ⟨jy 0 ys,[],hp⟩ a fun e st _=>match e with
  | .ex _=>False
  | _=>match fn.res with
   | [.t n]=>match au st.fr n with
    | .p k 0=>k.dp=E.dp∧(match aE st.bx k.d with
     | some cs=>(cs.all sW)=true∧q cs st.hp
     | none=>False)
    | _=>False
   | _=>False
noncomputable def SO(fn:bE)(ys:List AV)(hp:HP)(a:AT)(q:AV→HP→Prop):Prop:=
 cW G Ω E fn.code ⟨jy 0 ys,[],hp⟩ a fun e st a=>match e with
  | .ex _=>False
  | _=>Wg E st fn.res a fun xs=>kt (AV.aX xs) (q (EM xs) st.hp)
end
section
variable {G:sb}{Ω:ef}{E:Env}
theorem YA{st:St}{g:de}{q:KS}(h:gW G Ω E st g a q):∃ st' r,fS (call G Ω) Ω E st g=some st'∧q st' r:=by
 unfold gW at h
 split at h
 ·rename_i hg
  obtain ⟨x,st',r,h1,h2⟩:=On h
  exact ⟨_,r,by simp only [fS,hg,h1,ad],h2⟩
 ·rename_i j want hg
  split at h
  ·rename_i x hx
   obtain ⟨y,r,rfl,h⟩:=yB h
   split at h
   ·rename_i hy
    obtain ⟨x',st',r,h1,h2⟩:=On h
    exact ⟨_,r,by simp only [fS,hg,hx,wN,ad,hy,az,h1],h2⟩
   ·rename_i hy
    exact ⟨_,r,by simp only [fS,hg,hx,wN,ad,hy,bU,bB],h⟩
  ·rename_i hx
   exact ⟨_,a,by simp only [fS,hg,hx,wN,ad,bU,bB],h⟩
  ·exact h.elim
theorem Oq{st:St}{p:br}{q:KS}(h:SK G Ω E st p a q):∃ P r,jx (call G Ω) Ω E p (view p st)=some P∧q (P.app st) r:=by
 obtain ⟨h0,h⟩:=dA h
 obtain ⟨h1,h⟩:=Qw h
 obtain ⟨x,st',r,h2,h3,h4⟩:=On h
 exact ⟨_,r,by simp only [jx,h0,h1,ji,az,h2,ad,h3],h4⟩
theorem aj4{st:St}{p:br}{q:KS}(h:dW G Ω E st p a q):∃ st' r,dF (call G Ω) Ω E st p=some st'∧q st' r:=by
 unfold dW at h
 split at h
 ·rename_i F
  split at h
  ·rename_i hg
   obtain ⟨P,r,h1,h2⟩:=Oq h
   exact ⟨_,r,by simp only [dF,F,az,dy,hg,h1,ad],h2⟩
  ·rename_i j want hg
   split at h
   ·rename_i x hx
    obtain ⟨y,r,rfl,h⟩:=yB h
    split at h
    ·rename_i hy
     obtain ⟨P,r,h1,h2⟩:=Oq h
     exact ⟨_,r,by simp only [dF,F,az,dy,hg,hx,wN,hy,h1,ad],h2⟩
    ·rename_i hy
     exact ⟨_,r,by simp only [dF,F,az,dy,hg,hx,wN,hy,ad,bU,bB],h⟩
   ·rename_i hx
    exact ⟨_,a,by simp only [dF,F,az,dy,hg,hx,wN,ad,bU,bB],h⟩
   ·exact h.elim
 ·rename_i F
  obtain ⟨st',r,h1,h2⟩:=YA h
  exact ⟨st',r,by simp only [dF,F,bU,bB,h1],h2⟩
theorem K6{kf kb:List Nat} : ∀ {gs:List de}{st:St}{a:AT}{q:KS},FN G Ω E kf kb st gs a q→∃ st' r,uc G Ω E kf kb gs st=some st'∧q st' r
 | [],st,a,q,h=>⟨_,a,rfl,h⟩
 | g::gs,st,a,q,h=>by
  have key:∀ a',(gW G Ω E st g a' fun st a=>FN G Ω E kf kb st gs a q)→∃ st' r,uc G Ω E kf kb (g::gs) st=some st'∧q st' r:=by
   intro a' h
   obtain ⟨st1,r1,h1,h2⟩:=YA h
   obtain ⟨st2,r2,h3,h4⟩:=K6 h2
   exact ⟨st2,r2,by simp only [uc,iq,h1,ad];exact h3,h4⟩
  unfold FN at h
  split at h
  ·split at h
   ·obtain ⟨b,h⟩:=gR h
    split at h
    ·exact ⟨_,_,h.1,h.2⟩
    ·exact h.elim
   ·exact key _ h
  ·exact key _ h
theorem K7{kf kb:List Nat} : ∀ {gs:List br}{st:St}{a:AT}{q:KS},FO G Ω E kf kb st gs a q→∃ st' r,K5 G Ω E kf kb gs st=some st'∧q st' r
 | [],st,a,q,h=>⟨_,a,rfl,h⟩
 | g::gs,st,a,q,h=>by
  have key:∀ a',(dW G Ω E st g a' fun st a=>FO G Ω E kf kb st gs a q)→∃ st' r,K5 G Ω E kf kb (g::gs) st=some st'∧q st' r:=by
   intro a' h
   obtain ⟨st1,r1,h1,h2⟩:=aj4 h
   obtain ⟨st2,r2,h3,h4⟩:=K7 h2
   exact ⟨st2,r2,by simp only [K5,lC,h1,ad];exact h3,h4⟩
  unfold FO at h
  split at h
  ·split at h
   ·obtain ⟨b,h⟩:=gR h
    split at h
    ·exact ⟨_,_,h.1,h.2⟩
    ·exact h.elim
   ·exact key _ h
  ·exact key _ h
theorem Wi{st:St}{p:wM}{q:KS}(h:zN E st p a q):∃ st' r,iE E st p=some st'∧q st' r:=by
 cases p with
 | own d t=>
  simp only [zN] at h
  split at h
  ·rename_i hx;exact ⟨_,a,by simp only [iE,hx],h⟩
  ·rename_i hx;exact ⟨_,a,by simp only [iE,hx],h⟩
  ·exact h.elim
 | fz d=>
  simp only [zN] at h
  split at h
  ·rename_i hx;exact ⟨_,a,by simp only [iE,hx],h⟩
  ·exact h.elim
 | ownC d off t=>
  simp only [zN] at h
  split at h
  ·rename_i k o hx
   obtain ⟨D,h⟩:=h
   obtain ⟨cs,r,h1,h2⟩:=An h
   split at h2
   ·rename_i hc
    obtain ⟨r',h3⟩:=s0 h2
    exact ⟨_,r',by simp only [iE,hx,Ao D,az,h1,ad,hc],h3⟩
   ·rename_i hc
    exact ⟨_,r,by simp only [iE,hx,Ao D,az,h1,ad,hc],h2⟩
   ·exact h2.elim
  ·exact h.elim
 | fzC d off=>
  simp only [zN] at h
  split at h
  ·rename_i k o hx
   obtain ⟨D,h⟩:=h
   obtain ⟨cs,r,h1,h2⟩:=An h
   split at h2
   ·rename_i t es hc
    obtain ⟨r',h3⟩:=s0 h2
    exact ⟨_,r',by simp only [iE,hx,Ao D,az,h1,ad,hc],h3⟩
   ·exact h2.elim
  ·exact h.elim
 | fzB d agg=>
  simp only [zN] at h
  split at h
  ·rename_i k hx
   obtain ⟨h1,h⟩:=h
   split at h
   ·rename_i cs hb
    obtain ⟨h2,h⟩:=dA h
    split at h
    ·exact ⟨_,a,by simp only [iE,hx,ab h1,hb,ad,ab h2,az],h⟩
    ·split at h
     ·exact ⟨_,a,by simp only [iE,hx,ab h1,hb,ad,ab h2,bU,bB],h⟩
     ·exact h.elim
   ·exact h.elim
  ·exact h.elim
 | o0 d off nd sz=>
  simp only [zN] at h
  split at h
  ·rename_i st' h1;exact ⟨st',a,h1,h⟩
  ·exact h.elim
 | unp d off=>
  simp only [zN] at h
  split at h
  ·rename_i st' h1;exact ⟨st',a,h1,h⟩
  ·exact h.elim
theorem K8:∀ {ps:List wM}{st:St}{a:AT}{q:KS},SL E st ps a q→∃ st' r,sZ E st ps=some st'∧q st' r
 | [],st,a,q,h=>⟨st,a,rfl,h⟩
 | p::ps,st,a,q,h=>by
  obtain ⟨st1,r1,h1,h2⟩:=Wi h
  obtain ⟨st2,r2,h3,h4⟩:=K8 h2
  exact ⟨st2,r2,by simp only [sZ,h1,ad,h3],h4⟩
theorem ya:∀ (c:AC){st:St}{a:AT}{q:KX},cW G Ω E c st a q→∃ e st' r,run G Ω E c st=some (e,st')∧q e st' r
 | .sk,st,a,q,h=>⟨_,_,a,bh E st,by simpa only [cW] using h⟩
 | .rg pre ops kf kb,st,a,q,h=>by
  simp only [cW] at h
  obtain ⟨st1,r1,h1,h2⟩:=K8 h
  obtain ⟨st2,r2,h3,h4⟩:=K6 h2
  obtain ⟨st3,h5,rfl⟩:=db.1 h3
  exact ⟨_,_,r2,by rw [yA,h1,ad,h5];rfl,h4⟩
 | .dg pre mks ops kf kb,st,a,q,h=>by
  simp only [cW] at h
  obtain ⟨st1,r1,h1,h0,h2⟩:=K8 h
  obtain ⟨st2,r2,h3,h4⟩:=K7 h2
  obtain ⟨st3,h5,rfl⟩:=db.1 h3
  exact ⟨_,_,r2,by rw [Jn,h1,ad,ab h0,h5];rfl,h4⟩
 | .sq x y,st,a,q,h=>by
  simp only [cW] at h
  obtain ⟨e,st1,r1,h1,h2⟩:=ya x h
  cases e with
  | nrm=>
   obtain ⟨e,st2,r2,h3,h4⟩:=ya y h2
   exact ⟨e,st2,r2,by rw [n3,h1];exact h3,h4⟩
  | ex id=>exact ⟨_,_,r1,by rw [n3,h1];rfl,h2⟩
  | ret=>exact ⟨_,_,r1,by rw [n3,h1];rfl,h2⟩
 | .ite c x y,st,a,q,h=>by
  simp only [cW] at h
  split at h
  ·rename_i z hc
   obtain ⟨w,r,rfl,h⟩:=yB h
   cases z with
   | true=>
    obtain ⟨e,st1,r1,h1,h2⟩:=ya x h
    exact ⟨e,st1,r1,by rw [run_ite,hc];exact h1,h2⟩
   | false=>
    obtain ⟨e,st1,r1,h1,h2⟩:=ya y h
    exact ⟨e,st1,r1,by rw [run_ite,hc];exact h1,h2⟩
  ·exact h.elim
 | .bl id x,st,a,q,h=>by
  simp only [cW] at h
  obtain ⟨e,st1,r1,h1,h2⟩:=ya x h
  cases e with
  | nrm=>exact ⟨_,_,r1,by rw [n4,h1];rfl,h2⟩
  | ret=>exact ⟨_,_,r1,by rw [n4,h1];rfl,h2⟩
  | ex id'=>
   simp only at h2
   split at h2
   ·rename_i hi
    exact ⟨_,_,r1,by rw [n4,h1];simp only [ad,inBlock,hi,az],h2⟩
   ·rename_i hi
    exact ⟨_,_,r1,by rw [n4,h1];simp only [ad,inBlock,hi,bB],h2⟩
 | .lp x,st,a,q,h=>by
  cases x with
  | kp kf kb x=>
   simp only [cW] at h
   obtain ⟨e,st1,r1,h1,h2⟩:=K3 h
   refine ⟨e,st1,r1,?_,h2⟩
   exact (dL G Ω E ⟨kf,kb,x⟩ st).trans h1
  | _=>
   simp only [cW] at h
   obtain ⟨e,st1,r1,h1,h2⟩:=K3 h
   exact ⟨e,st1,r1,h1,h2⟩
 | .ex id,st,a,q,h=>⟨_,_,a,dR E st id,by simpa only [cW] using h⟩
 | .ru g x y b,st,a,q,h=>by
  simp only [cW] at h
  obtain ⟨e,st1,r1,h1,h2⟩:=K3 h
  exact ⟨e,st1,r1,h1,h2⟩
 | .rt,st,a,q,h=>⟨_,_,a,cQ E st,by simpa only [cW] using h⟩
 | .kp kf kb x,st,a,q,h=>by
  unfold cW at h
  split at h
  ·obtain ⟨b,h⟩:=gR h
   split at h
   ·exact ⟨_,_,_,by rw [jq];exact h.1,h.2⟩
   ·exact h.elim
  ·obtain ⟨e,st1,r1,h1,h2⟩:=ya x h
   exact ⟨e,st1,r1,by rw [jq];exact h1,h2⟩
theorem Ip{st:St}{x:AV}{q:AV→AT→Prop}(h:Jz E st x a q):∃ y r,st.pZ E.dp x=some y∧q y r:=by
 unfold Jz at h
 split at h
 ·exact ⟨_,a,rfl,h⟩
 ·obtain ⟨t,es,r,h1,h2⟩:=jr h
  exact ⟨_,r,by simp only [St.pZ,h1,ad],h2⟩
 ·obtain ⟨h0,h⟩:=h
  obtain ⟨t,es,r,h1,h2⟩:=jr h
  exact ⟨_,r,by simp only [St.pZ,ab h0,h1,ad],h2⟩
 ·obtain ⟨t,es,r,h1,h2⟩:=jr h
  obtain ⟨C,r,h3,rfl,h5⟩:=oX h2
  exact ⟨_,r,by simp only [St.pZ,h1,ad,ab h3],h5⟩
 ·exact h.elim
 ·exact h.elim
 ·exact h.elim
 ·exact h.elim
 ·exact h.elim
 ·rename_i h1 h2 h3 h4 h5 h6 h7 h8 h9
  refine ⟨x,a,?_,h⟩
  unfold St.pZ
  split
  ·exact (h1 _ _ rfl).elim
  ·exact (h2 _ rfl).elim
  ·exact (h3 _ _ rfl).elim
  ·exact (h4 _ _ _ rfl).elim
  ·exact (h7 _ _ _ rfl).elim
  ·exact (h8 _ _ rfl).elim
  ·exact (h9 _ _ _ rfl).elim
  ·rfl
theorem Ot{st:St} : ∀ {xs:List AV}{a:AT}{q:List AV→AT→Prop},SM E st xs a q→∃ ys r,st.K1 E.dp xs=some ys∧q ys r
 | [],a,q,h=>⟨[],a,rfl,h⟩
 | x::xs,a,q,h=>by
  obtain ⟨y,r,h1,h2⟩:=Ip h
  obtain ⟨ys,r2,h3,h4⟩:=Ot h2
  exact ⟨_,r2,by simp only [St.K1,h1,h3,ad],h4⟩
theorem Wj{st:St}{z:RV}{q:AV→AT→Prop}(h:SN E st z a q):∃ y r,st.Ay E z=some y∧q y r:=by
 cases z with
 | t n=>exact Ip h
 | r n=>exact h.elim
 | c n sz=>
  simp only [SN] at h
  split at h
  ·rename_i k off hx
   obtain ⟨h0,h⟩:=h
   split at h
   ·rename_i cs hb
    split at h
    ·rename_i ds hp
     obtain ⟨ys,r,h1,h2⟩:=Ot h
     exact ⟨_,r,by simp only [St.Ay,hx,ab h0,hb,hp,h1,ad],h2⟩
    ·rename_i y hy hp
     obtain ⟨z,r,h1,h2⟩:=Ip h
     refine ⟨z,r,?_,h2⟩
     simp only [St.Ay,hx,ab h0,hb,hp,ad,h1]
    ·exact h.elim
   ·exact h.elim
  ·exact h.elim
theorem K9{st:St} : ∀ {zs:List RV}{a:AT}{q:List AV→Prop},Wg E st zs a q→∃ xs,st.sc E zs=some xs∧q xs
 | [],a,q,h=>⟨[],rfl,h⟩
 | z::zs,a,q,h=>by
  obtain ⟨y,r,h1,h2⟩:=Wj h
  obtain ⟨ys,h3,h4⟩:=K9 h2
  exact ⟨_,by simp only [St.sc,h1,h3,ad],h4⟩
theorem Wk{f:FuncId}{fn:bE}{ys:List AV}{hp:HP}{q:AV→HP→Prop}(hG:G f=some fn)(a:AT)(h:SO G Ω E fn ys hp a q):∃ x hp',call G Ω E f ys hp=some (.ret x,hp')∧q x hp':=by
 obtain ⟨e,st,r,h1,h2⟩:=ya fn.code h
 cases e with
 | ex id=>exact h2.elim
 | nrm=>
  obtain ⟨xs,h3,h4⟩:=K9 h2
  obtain ⟨h5,h6⟩:=dA h4
  exact ⟨_,_,by rw [qR,hG,ad,h1];simp only [ad,St.end_,St.result,h3,h5,az],h6⟩
 | ret=>
  obtain ⟨xs,h3,h4⟩:=K9 h2
  obtain ⟨h5,h6⟩:=dA h4
  exact ⟨_,_,by rw [qR,hG,ad,h1];simp only [ad,St.end_,St.result,h3,h5,az],h6⟩
theorem aeN{st:St}{rs:List RV}{n:Nat}{k:Key}(h1:rs=[.t n])(h2:au st.fr n= .p k 0)(h3:k.dp=E.dp)(h4:aE st.bx k.d=some cs)(h5:cs.all sW=true):st.end_ E rs=some (.new cs):=by
 subst h1
 have hr:st.result E [.t n]=none:=by simp [St.result,St.sc,St.Ay,h2,St.pZ,AV.aX,AV.pure]
 simp only [St.end_,hr,St.fU,h2,ab h3,h4,ad,h5,az,fE]
theorem Uv{f:FuncId}{fn:bE}{ys:List AV}{hp:HP}{q:List AV→HP→Prop}(hG:G f=some fn)(a:AT)(h:Oo G Ω E fn ys hp a q):∃ cs hp',call G Ω E f ys hp=some (.new cs,hp')∧q cs hp':=by
 obtain ⟨e,st,r,h1,h2⟩:=ya fn.code h
 have key:∀ {P:Prop},(match fn.res with
   | [.t n]=>match au st.fr n with
    | .p k 0=>k.dp=E.dp∧(match aE st.bx k.d with
     | some cs=>(cs.all sW)=true∧q cs st.hp
     | none=>False)
    | _=>False
   | _=>False)→(∀ cs,st.end_ E fn.res=some (.new cs)→q cs st.hp→P)→P:=by
  intro P h2 hP
  split at h2
  ·rename_i n I
   split at h2
   ·rename_i k hk
    obtain ⟨h3,h4⟩:=h2
    split at h4
    ·rename_i cs hb
     exact hP cs (aeN I hk h3 hb h4.1) h4.2
    ·exact h4.elim
   ·exact h2.elim
  ·exact h2.elim
 cases e with
 | ex id=>exact h2.elim
 | nrm=>exact key h2 fun cs h3 h4=>⟨cs,_,by rw [qR,hG,ad,h1];simp only [ad,h3],h4⟩
 | ret=>exact key h2 fun cs h3 h4=>⟨cs,_,by rw [qR,hG,ad,h1];simp only [ad,h3],h4⟩
theorem aeO{R:Type}{f:FuncId}{fn:bE}{ys:List AV}{hp:HP}{Y:R→bH×HP}{r:R}{T:Prop}(hG:G f=some fn)(a:AT)(h:T)(he:T=Oo G Ω E fn ys hp a fun y h=>(bH.new y,h)=Y r):call G Ω E f ys hp=some (Y r):=by
 obtain ⟨y,h',h1,h2⟩:=Uv hG a (he▸h)
 rw [←h2];exact h1
theorem aj5{R:Type}{f:FuncId}{fn:bE}{ys:List AV}{hp:HP}{Y:R→bH×HP}{r:R}{T:Prop}(hG:G f=some fn)(a:AT)(h:T)(he:T=SO G Ω E fn ys hp a fun y h=>(bH.ret y,h)=Y r):call G Ω E f ys hp=some (Y r):=by
 obtain ⟨y,h',h1,h2⟩:=Wk hG a (he▸h)
 rw [←h2];exact h1
theorem runT{R:Type}{c:AC}{st:St}{Y:R→aN×St}{r:R}{T:Prop}(a:AT)(h:T)(he:T=cW G Ω E c st a fun e s _=>(e,s)=Y r):run G Ω E c st=some (Y r):=by
 obtain ⟨e,s,_,h1,h2⟩:=ya c (he▸h)
 rw [←h2];exact h1
theorem aj6{R:Type}{kf kb:List Nat}{gs:List de}{st:St}{Y:R→St}{r:R}{T:Prop}(a:AT)(h:T)(he:T=FN G Ω E kf kb st gs a fun s _=>s=Y r):uc G Ω E kf kb gs st=some (Y r):=by
 obtain ⟨s,_,h1,h2⟩:=K6 (he▸h)
 rw [←h2];exact h1
theorem aj7{R:Type}{kf kb:List Nat}{gs:List br}{st:St}{Y:R→St}{r:R}{T:Prop}(a:AT)(h:T)(he:T=FO G Ω E kf kb st gs a fun s _=>s=Y r):K5 G Ω E kf kb gs st=some (Y r):=by
 obtain ⟨s,_,h1,h2⟩:=K7 (he▸h)
 rw [←h2];exact h1
def YB(kf kb:List Nat):aN→St→St⊕(aN×St)
 | .nrm,s=>.inl (s.aG kf kb)
 | e,s=>.inr (e,s)
theorem ai{a b:Prop}(x:a)(y:b):a∧b:=⟨x,y⟩
theorem tt:true=true:=rfl
theorem gf:(false==true)=false:=rfl
theorem ht:(true==false)=false:=rfl
theorem hf:(false==false)=true:=rfl
abbrev W(w:List AV)(n:Nat):AV:=w.getD n .u
abbrev bt(r:AT):AT:=.co (.b true) r
abbrev bf(r:AT):AT:=.co (.b false) r
abbrev ao(x:Rl)(r:AT):AT:=.co x r
theorem ff:false=false:=rfl
end
end Go.Proofs.YtkkkkondjclcnaaGreat.A
