/- Paths: what is told of a run (which way it goes, what an element is, what a call answers) gives what must be shown, and nothing else; all else is reckoned. -/
import Derived.Test.YtkkkkondjclcnaaAbs3
import Derived.KernelRfl
set_option linter.unusedSectionVars false
set_option linter.unusedVariables false
set_option linter.unusedSimpArgs false
set_option linter.constructorNameAsVariable false
namespace Go.Proofs.Ytkkkkondjclcnaa.A
open Go
inductive Sz where
 | b (x:Bool)
 | n (x:Nat)
 | i (x:Int)
 | v (x:AV)
 | l (es:List AV)
 | s (x:List UInt8)
 | h (hp:HP)
 | bx (bs:List (Nat×List AV))
 | lp (e:aE) (st:St)
 | fr (e:aE) (st:St)
 | jn (st:St)
inductive AT:Type 1 where
 | nil
 | no
 | co (x:Sz) (r:AT)
 | or (a b:AT)
 | ex {α:Type} (f:α→AT)
 | jb (d:Option Nat) (n:Nat) (b:AT)
 | fb (b:AT)
def eR:AT→(AT→Prop)→Prop
 | .or a b,k=>eR a k∨eR b k
 | .ex f,k=>∃ x,eR (f x) k
 | .no,_=>False
 | a,k=>k a
theorem dm{k:AT→Prop} : ∀ {a:AT},eR a k→∃ b,k b
 | .or a b,h=>by
  rw [eR] at h
  rcases h with h | h
  ·exact dm h
  ·exact dm h
 | .ex f,h=>by
  rw [eR] at h
  obtain ⟨x,h⟩:=h
  exact dm h
 | .no,h=>h.elim
 | .nil,h=>⟨_,h⟩
 | .co _ _,h=>⟨_,h⟩
 | .jb _ _ _,h=>⟨_,h⟩
 | .fb _,h=>⟨_,h⟩
def yt(a:AT)(k:Bool→AT→Prop):Prop:=eR a fun a=>match a with
 | .co (.b x) r=>k x r
 | _=>False
def L2(a:AT)(k:Nat→AT→Prop):Prop:=eR a fun a=>match a with
 | .co (.n x) r=>k x r
 | _=>False
def wR(a:AT)(k:Int→AT→Prop):Prop:=eR a fun a=>match a with
 | .co (.i x) r=>k x r
 | _=>False
def Cd(a:AT)(k:AV→AT→Prop):Prop:=eR a fun a=>match a with
 | .co (.v x) r=>k x r
 | _=>False
def qO(a:AT)(k:List AV→AT→Prop):Prop:=eR a fun a=>match a with
 | .co (.l x) r=>k x r
 | _=>False
def L3(a:AT)(k:List UInt8→AT→Prop):Prop:=eR a fun a=>match a with
 | .co (.s x) r=>k x r
 | _=>False
def AW(a:AT)(k:HP→AT→Prop):Prop:=eR a fun a=>match a with
 | .co (.h x) r=>k x r
 | _=>False
def Hw(a:AT)(k:List (Nat×List AV)→AT→Prop):Prop:=eR a fun a=>match a with
 | .co (.bx x) r=>k x r
 | _=>False
def Fk(a:AT)(k:aE→St→AT→Prop):Prop:=eR a fun a=>match a with
 | .co (.lp e st) r=>k e st r
 | _=>False
def eu(b:Bool)(p:Prop):Prop:=match b with
 | true=>p
 | false=>False
theorem py{a:AT}{k:Bool→AT→Prop}(h:yt a k):∃ x r,k x r:=by
 obtain ⟨b,h⟩:=dm h
 split at h
 ·exact ⟨_,_,h⟩
 ·exact h.elim
theorem Gc{a:AT}{k:Nat→AT→Prop}(h:L2 a k):∃ x r,k x r:=by
 obtain ⟨b,h⟩:=dm h
 split at h
 ·exact ⟨_,_,h⟩
 ·exact h.elim
theorem oe{a:AT}{k:Int→AT→Prop}(h:wR a k):∃ x r,k x r:=by
 obtain ⟨b,h⟩:=dm h
 split at h
 ·exact ⟨_,_,h⟩
 ·exact h.elim
theorem sW{a:AT}{k:AV→AT→Prop}(h:Cd a k):∃ x r,k x r:=by
 obtain ⟨b,h⟩:=dm h
 split at h
 ·exact ⟨_,_,h⟩
 ·exact h.elim
theorem iH{a:AT}{k:List AV→AT→Prop}(h:qO a k):∃ x r,k x r:=by
 obtain ⟨b,h⟩:=dm h
 split at h
 ·exact ⟨_,_,h⟩
 ·exact h.elim
theorem Gd{a:AT}{k:List UInt8→AT→Prop}(h:L3 a k):∃ x r,k x r:=by
 obtain ⟨b,h⟩:=dm h
 split at h
 ·exact ⟨_,_,h⟩
 ·exact h.elim
theorem qP{a:AT}{k:HP→AT→Prop}(h:AW a k):∃ x r,k x r:=by
 obtain ⟨b,h⟩:=dm h
 split at h
 ·exact ⟨_,_,h⟩
 ·exact h.elim
theorem Ef{a:AT}{k:List (Nat×List AV)→AT→Prop}(h:Hw a k):∃ x r,k x r:=by
 obtain ⟨b,h⟩:=dm h
 split at h
 ·exact ⟨_,_,h⟩
 ·exact h.elim
theorem zF{a:AT}{k:aE→St→AT→Prop}(h:Fk a k):∃ e st r,k e st r:=by
 obtain ⟨b,h⟩:=dm h
 split at h
 ·exact ⟨_,_,_,h⟩
 ·exact h.elim
theorem bz{b:Bool}{p:Prop}(h:eu b p):b=true∧p:=by
 cases b with
 | true=>exact ⟨rfl,h⟩
 | false=>exact h.elim
def Ce(x:AV)(a:AT)(k:Nat→AT→Prop):Prop:=match x with
 | .i _ n=>L2 a fun j r=>n=(j:Int)∧k j r
 | _=>False
theorem zG{x:AV}{a:AT}{k:Nat→AT→Prop}(h:Ce x a k):∃ j r,nj x=some j∧k j r:=by
 unfold Ce at h;split at h
 ·obtain ⟨j,r,h1,h2⟩:=Gc h
  subst h1
  exact ⟨j,r,by simp [nj],h2⟩
 ·exact h.elim
def xg(E:Env)(st:St)(k:Key)(a:AT)(q:List AV→AT→Prop):Prop:=
 yt a fun own r=>match own with
  | true=>k.dp=E.dp∧(match aq st.bx k.d with
   | some cs=>q cs r
   | none=>False)
  | false=>qO r fun cs r=>k.dp≠E.dp∧st.hp k=some cs∧q cs r
theorem qC{E:Env}{st:St}{k:Key}{a:AT}{q:List AV→AT→Prop}(h:xg E st k a q):∃ cs r,st.box E.dp k=some cs∧q cs r:=by
 obtain ⟨own,r,h⟩:=py h
 cases own with
 | true=>
  obtain ⟨h1,h2⟩:=h
  split at h2
  ·rename_i cs hb
   exact ⟨cs,r,by simp only [St.box,if_pos h1,hb],h2⟩
  ·exact h2.elim
 | false=>
  obtain ⟨cs,r,h1,h2,h3⟩:=iH h
  exact ⟨cs,r,by simp only [St.box,if_neg h1,h2],h3⟩
def oL(E:Env)(st:St)(k:Key)(cs:List AV)(a:AT)(q:St→AT→Prop):Prop:=
 yt a fun own r=>match own with
  | true=>k.dp=E.dp∧q {st with bx:=fV st.bx k.d cs} r
  | false=>AW r fun hp r=>k.dp≠E.dp∧aj st.hp k cs=hp∧q {st with hp:=hp} r
theorem lS{E:Env}{st:St}{k:Key}{cs:List AV}{a:AT}{q:St→AT→Prop}(h:oL E st k cs a q):∃ r,q (st.au E.dp k cs) r:=by
 obtain ⟨own,r,h⟩:=py h
 cases own with
 | true=>
  obtain ⟨h1,h2⟩:=h
  exact ⟨r,by simp only [St.au,if_pos h1];exact h2⟩
 | false=>
  obtain ⟨hp,r,h1,h2,h3⟩:=qP h
  subst h2
  exact ⟨r,by simp only [St.au,if_neg h1];exact h3⟩
def jE(E:Env)(st:St)(pl:Pl)(a:AT)(q:TypeId→List AV→AT→Prop):Prop:=
 match pl with
 | .s d=>match af st.fr d with
  | .o t es=>q t es a
  | _=>False
 | .c k off=>xg E st k a fun cs r=>match cs[off]? with
  | some (.o t es)=>q t es r
  | _=>False
theorem dZ{E:Env}{st:St}{pl:Pl}{a:AT}{q:TypeId→List AV→AT→Prop}(h:jE E st pl a q):∃ t es r,st.rowAt E.dp pl=some (t,es)∧q t es r:=by
 unfold jE at h
 split at h
 ·split at h
  ·rename_i t es hx
   exact ⟨t,es,a,by simp only [St.rowAt,hx],h⟩
  ·exact h.elim
 ·obtain ⟨cs,r,h1,h2⟩:=qC h
  split at h2
  ·rename_i t es hx
   exact ⟨t,es,r,by simp only [St.rowAt,h1,hx],h2⟩
  ·exact h2.elim
def u5(E:Env)(st:St)(x:AV)(pl:Pl)(a:AT)(q:St→AT→Prop):Prop:=
 match pl with
 | .s d=>q (st.ba d x) a
 | .c k off=>xg E st k a fun cs r=>oL E st k (cs.set off x) r q
theorem u6{E:Env}{st:St}{x:AV}{pl:Pl}{a:AT}{q:St→AT→Prop}(h:u5 E st x pl a q):∃ st' r,st.putAt E.dp x pl=some st'∧q st' r:=by
 unfold u5 at h
 split at h
 ·exact ⟨_,a,rfl,h⟩
 ·obtain ⟨cs,r,h1,h2⟩:=qC h
  obtain ⟨r',h3⟩:=lS h2
  exact ⟨_,r',by simp only [St.putAt,h1],h3⟩
def v8(sz:Nat)(es:List AV)(j:Nat)(a:AT)(q:AV→AT→Prop):Prop:=Cd a fun e r=>es[j]? =some e∧eu (e.nc==sz) (q e r)
theorem qQ{sz:Nat}{es:List AV}{j:Nat}{a:AT}{q:AV→AT→Prop}(h:v8 sz es j a q):∃ e r,es[j]? =some e∧e.nc=sz∧q e r:=by
 obtain ⟨e,r,h1,h2⟩:=sW h
 obtain ⟨h3,h4⟩:=bz h2
 exact ⟨e,r,h1,by simpa using h3,h4⟩
theorem oM{E:Env}(h:E.ro=false)(pl:Pl):pl.en E=true:=by cases pl<;>simp [Pl.en,h]
def yu(E:Env)(st:St)(x:AV)(a:AT)(q:TypeId→List AV→AT→Prop):Prop:=
 match x with
 | .l t es=>q t es a
 | .n=>q 0 [] a
 | .o t es=>q t es a
 | .r pl=>jE E st pl a q
 | .v pl lo len=>jE E st pl a fun t es r=>qO r fun es' r=>lo+len≤es.length∧(es.drop lo).take len=es'∧q t es' r
 | _=>False
theorem AX{E:Env}{st:St}{x:AV}{a:AT}{q:TypeId→List AV→AT→Prop}(h:yu E st x a q):∃ t es r,st.elems E.dp x=some (t,es)∧q t es r:=by
 unfold yu at h
 split at h
 ·exact ⟨_,_,a,rfl,h⟩
 ·exact ⟨_,_,a,rfl,h⟩
 ·exact ⟨_,_,a,rfl,h⟩
 ·obtain ⟨t,es,r,h1,h2⟩:=dZ h
  exact ⟨t,es,r,h1,h2⟩
 ·obtain ⟨t,es,r,h1,h2⟩:=dZ h
  obtain ⟨es',r',h3,h4,h5⟩:=iH h2
  subst h4
  exact ⟨t,_,r',by simp only [St.elems,h1,if_pos h3],h5⟩
 ·exact h.elim
def qh(E:Env)(st:St):List AV→AT→(List AV→List TypeId→AT→Prop)→Prop
 | [],a,q=>q [] [] a
 | x::xs,a,q=>(match x with
  | .o t es=>qh E st xs a fun ys ts r=>q (.l t es::ys) ([t]++ts) r
  | .r pl=>jE E st pl a fun t es r=>qh E st xs r fun ys ts r=>q (.l t es::ys) ([t]++ts) r
  | .v pl lo len=>jE E st pl a fun t es r=>qO r fun es' r=>lo+len≤es.length∧(es.drop lo).take len=es'∧qh E st xs r fun ys ts r=>q (.l t es'::ys) ([t]++ts) r
  | .w _ t x=>qh E st xs a fun ys ts r=>q (x::ys) ([t]++ts) r
  | x=>eu x.pure (qh E st xs a fun ys ts r=>q (x::ys) ([]++ts) r))
theorem nI{E:Env}{st:St} : ∀ {xs:List AV}{a:AT}{q:List AV→List TypeId→AT→Prop},qh E st xs a q→∃ ys ts r,st.cI E.dp xs=some (ys,ts)∧q ys ts r
 | [],a,q,h=>⟨[],[],a,rfl,h⟩
 | x::xs,a,q,h=>by
  unfold qh at h
  split at h
  ·obtain ⟨ys,ts,r,h1,h2⟩:=nI h
   exact ⟨_,_,r,by simp [St.cI,St.eI,h1],h2⟩
  ·obtain ⟨t,es,r,h1,h2⟩:=dZ h
   obtain ⟨ys,ts,r,h3,h4⟩:=nI h2
   exact ⟨_,_,r,by simp [St.cI,St.eI,h1,h3],h4⟩
  ·obtain ⟨t,es,r,h1,h2⟩:=dZ h
   obtain ⟨es',r,h3,h4,h5⟩:=iH h2
   obtain ⟨ys,ts,r,h6,h7⟩:=nI h5
   subst h4
   exact ⟨_,_,r,by simp [St.cI,St.eI,h1,h3,h6],h7⟩
  ·obtain ⟨ys,ts,r,h1,h2⟩:=nI h
   exact ⟨_,_,r,by simp [St.cI,St.eI,h1],h2⟩
  ·rename_i h1 h2 h3 hw
   obtain ⟨h4,h5⟩:=bz h
   obtain ⟨ys,ts,r,h6,h7⟩:=nI h5
   refine ⟨_,_,r,?_,h7⟩
   have:st.eI E.dp x=some (x,[]):=by
    unfold St.eI
    split
    ·exact (h1 _ _ rfl).elim
    ·exact (h2 _ rfl).elim
    ·exact (h3 _ _ _ rfl).elim
    ·exact (hw _ _ _ rfl).elim
    ·simp [AV.pure] at h4
    ·rw [if_pos h4]
   simp [St.cI,this,h6]
abbrev KW:=AV→St→AT→Prop
section
variable (G:kY)(Ω:bL)(E:Env)(st:St)(d:Option Nat)
def L4(sz:Nat)(arr:Option Nat)(x:AV)(xo:aA)(j:Nat)(a:AT)(k:KW):Prop:=
 match arr with
 | some len=>j<len∧(match x with
  | .p kk o=>k (.p kk (o+j*sz)) st a
  | .e y o=>k (.e y (o+j*sz)) st a
  | _=>False)
 | none=>match x with
  | .l _ es=>v8 sz es j a fun e r=>k (.e e 0) st r
  | .o _ es=>match xo with
   | .t m=>v8 sz es j a fun _ r=>k (.q (.s m) j sz 0) st r
   | .c _=>False
  | .r pl=>jE E st pl a fun _ es r=>v8 sz es j r fun _ r=>k (.q pl j sz 0) st r
  | .v pl lo len=>jE E st pl a fun _ es r=>j<len∧lo+len≤es.length∧(v8 sz es (lo+j) r fun _ r=>k (.q pl (lo+j) sz 0) st r)
  | _=>False
def Hx(E:Env)(k:Key):Prop:=match E.ro with
 | false=>false=false
 | true=>k.dp=E.dp
theorem Fl{E:Env}{k:Key}(h:Hx E k)(off:Nat):(Pl.c k off).en E=true:=by
 unfold Hx at h
 cases hr:E.ro with
 | false=>exact oM hr _
 | true=>rw [hr] at h;simp [Pl.en,h]
def L5(op:BinOp)(bl:Bool)(x y:AV)(a:AT)(k:KW):Prop:=
 match x,y with
 | .i ki m,.i ki' n=>if ki=ki' then
   match op with
   | .add=>wR a fun r a=>ki.wrap (m+n)=r∧k (.i ki r) st a
   | .sub=>wR a fun r a=>ki.wrap (m - n)=r∧k (.i ki r) st a
   | .mul=>wR a fun r a=>ki.wrap (m*n)=r∧k (.i ki r) st a
   | .quo=>wR a fun r a=>n≠0∧ki.wrap (m.tdiv n)=r∧k (.i ki r) st a
   | .rem=>wR a fun r a=>n≠0∧m.tmod n=r∧k (.i ki r) st a
   | .or=>wR a fun r a=>(if n>m then n else m)=r∧k (.i ki r) st a
   | .eql=>k (.b (m==n)) st a
   | .neq=>k (.b (m !=n)) st a
   | .lss=>k (.b (decide (m<n))) st a
   | .leq=>k (.b (decide (m≤n))) st a
   | .gtr=>k (.b (decide (n<m))) st a
   | .geq=>k (.b (decide (n≤m))) st a
   | _=>False
  else False
 | .b m,.b n=>match bl,op with
  | true,.eql=>k (.b (m==n)) st a
  | true,.neq=>k (.b (!(m==n))) st a
  | _,_=>False
 | .s m,.s n=>match op with
  | .add=>L3 a fun r a=>m.length+n.length≤4611686018427387904∧m++n=r∧k (.s r) st a
  | .eql=>k (.b (m==n)) st a
  | .neq=>k (.b (!(m==n))) st a
  | _=>False
 | _,_=>False
def L6(n:Option Nat)(x:AV)(a:AT)(k:KW):Prop:=
 match x with
 | .p kk off=>xg E st kk a fun cs a=>match pick n off cs with
  | some (.o _ _)=>k (.r (.c kk off)) st a
  | some y=>eu y.copy (k y st a)
  | none=>False
 | .e x off=>match pick n off x.cl with
  | some y=>k y st a
  | none=>False
 | .q pl i sz off=>jE E st pl a fun _ es a=>v8 sz es i a fun e a=>match pick n off e.cl with
  | some y=>k y st a
  | none=>False
 | _=>False
def L7(n:Nat)(x y:AV)(yo:aA)(a:AT)(k:KW):Prop:=
 match x with
 | .p kk off=>Hx E kk∧(xg E st kk a fun cs a=>match y with
  | .o t es=>match yo with
   | .t m=>eu (n==1&&decide (off<cs.length)) (oL E ((st.ba m .u).az (.c kk off)) kk (cs.set off (.o t es)) a fun st' a=>k .u st' a)
   | .c _=>False
  | .v pl lo len=>pl= .c kk off∧eu (lo==0&&n==1) (jE E st pl a fun t es a=>qO a fun es' a=>len≤es.length∧es.take len=es'∧(oL E (st.az (.c kk off)) kk (cs.set off (.o t es')) a fun st' a=>k .u st' a))
  | y=>y.deep kk.dp=true∧eu (y.copy&&y.nc==n&&y.cl.all AV.one&&decide (off+n≤cs.length)) (oL E st kk (putCells cs off y.cl) a fun st' a=>k .u st' a))
 | .q pl i sz off=>E.ro=false∧(jE E st pl a fun t es a=>Cd a fun e a=>es[i]? =some e∧eu (e.nc==sz&&y.pure&&y.nc==n&&y.cl.all AV.one&&decide (off+n≤sz)) (qO a fun es' a=>es.set i (tN e off y.cl)=es'∧(u5 E st (.o t es') pl a fun st' a=>k .u st' a)))
 | _=>False
def xh(x:Option AV)(dflt:Nat)(a:AT)(k:Nat→AT→Prop):Prop:=
 match x with
 | none=>k dflt a
 | some y=>Ce y a k
def L8(t sz:Nat)(x:AV)(lo hi:Option AV)(a:AT)(k:KW):Prop:=
 match x with
 | .s l=>xh lo 0 a fun i a=>xh hi l.length a fun j a=>L3 a fun r a=>t=0∧i≤j∧j≤l.length∧(l.take j).drop i=r∧k (.s r) st a
 | .l t' es=>xh lo 0 a fun i a=>xh hi es.length a fun j a=>qO a fun r a=>t≠0∧es.all (fun e=>e.nc==sz)=true∧i≤j∧j≤es.length∧(es.take j).drop i=r∧k (.l t' r) st a
 | .r pl=>jE E st pl a fun t' es a=>xh lo 0 a fun i a=>xh hi es.length a fun j a=>L2 a fun m a=>eu (t !=0&&t'==t) (i≤j∧j≤es.length∧j - i=m∧k (.v pl i m) st a)
 | _=>False
def xi(t:TypeId)(x:aA)(a:AT)(k:List AV→St→AT→Prop):Prop:=
 match x with
 | .c .n=>k [] st a
 | .c _=>False
 | .t m=>match af st.fr m with
  | .n=>k [] st a
  | .o t' es=>eu (t'==t) (k es (st.ba m .u) a)
  | .r pl=>E.ro=false∧(jE E st pl a fun t' es a=>eu (t'==t) (u5 E st .u pl a fun st' a=>k es st' a))
  | .v pl lo len=>E.ro=false∧eu (lo==0) (jE E st pl a fun t' es a=>qO a fun es' a=>len≤es.length∧t'=t∧es.take len=es'∧(u5 E st .u pl a fun st' a=>k es' st' a))
  | _=>False
noncomputable def Ge(m:Nat)(f:FuncId)(args:List AV)(a:AT)(k:KW):Prop:=
 match m with
 | 0=>qh E st args a fun ys ts a=>Cd a fun x a=>call G Ω ⟨0,false⟩ f ys (fun _=>none)=some (.ret x,fun _=>none)∧(match ts with
  | []=>eu x.pure (k x st a)
  | ts=>x.pure=true∧x.off ts=true∧k x st a)
 | 1=>qh E st args a fun ys ts a=>Cd a fun x a=>Ω f ys=some x∧(match ts with
  | []=>eu x.pure (k x st a)
  | ts=>x.pure=true∧x.off ts=true∧k x st a)
 | _=>False
noncomputable def Jn(f:FuncId)(args:List AV)(a:AT)(k:KW):Prop:=
 match args.all AV.iE with
 | true=>Ge G Ω E st 0 f args a k
 | false=>E.ro=false∧(st.bx.all fun y=>AV.bN E.dp y.2)=true∧eu (args.all AV.copy) (Cd a fun x a=>AW a fun h2 a=>Hw a fun bx a=>AW a fun h3 a=>
  call G Ω ⟨E.dp+1,false⟩ f args (fun kk=>st.box E.dp kk)=some (.ret x,h2)∧da E.dp h2 st.bx=bx∧(fun kk:Key=>if kk.dp<E.dp then h2 kk else none)=h3∧
  k x ⟨st.fr.map fun y=>(y.1,if ka y.2=true then .u else y.2),bx,h3⟩ a)
noncomputable def L9(f:FuncId)(args:List AV)(a:AT)(k:KW):Prop:=
 (st.bx.all fun y=>AV.bN E.dp y.2)=true∧eu (args.all AV.copy) (Cd a fun x a=>AW a fun h2 a=>call G Ω ⟨E.dp+1,true⟩ f args (fun kk=>st.box E.dp kk)=some (.ret x,h2)∧eu x.pure (k x st a))
noncomputable def Uv(dd:Nat)(f:FuncId)(args:List AV)(a:AT)(k:KW):Prop:=
 E.ro=false∧(st.bx.all fun y=>AV.bN E.dp y.2)=true∧eu (args.all AV.copy) (qO a fun cs a=>AW a fun h2 a=>Hw a fun bx a=>AW a fun h3 a=>
  call G Ω ⟨E.dp+1,false⟩ f args (fun kk=>st.box E.dp kk)=some (.new cs,h2)∧da E.dp h2 st.bx=bx∧(fun kk:Key=>if kk.dp<E.dp then h2 kk else none)=h3∧
  nh E.dp ⟨st.fr.map fun y=>(y.1,if ka y.2=true then .u else y.2),bx,h3⟩ dd=true∧
  k (.p ⟨E.dp,dd⟩ 0) ⟨st.fr.map fun y=>(y.1,if ka y.2=true then .u else y.2),(dd,cs)::bx,h3⟩ a)
noncomputable def Uw(dd:Nat)(f:FuncId)(args:List AV)(a:AT)(k:KW):Prop:=
 eu (AV.aO args) (qO a fun cs a=>AW a fun h2 a=>call G Ω ⟨E.dp+1,false⟩ f args (fun _=>none)=some (.new cs,h2)∧(cs.all nR&&nh E.dp st dd)=true∧k (.p ⟨E.dp,dd⟩ 0) {st with bx:=(dd,cs)::st.bx} a)
noncomputable def jf(a:AT)(o:kv)(k:KW):Prop:=
 match o with
 | .mv x=>match st.ev x with
  | .o _ _=>match x with
   | .t n=>k (.r (.s n)) st a
   | .c _=>False
  | y=>k y st a
 | .as x=>match x with
  | .c y=>eu y.pure (k y st a)
  | .t n=>match af st.fr n with
   | .o t es=>match d with
    | some d=>k (.o t es) ((st.ba n .u).az (.s d)) a
    | none=>False
   | .v pl lo len=>match d with
    | some d=>yt a fun own a=>match own with
     | true=>pl= .s d∧eu (lo==0) (jE E st pl a fun t es a=>qO a fun es' a=>len≤es.length∧es.take len=es'∧k (.o t es') (st.az (.s d)) a)
     | false=>(pl= .s d→(lo==0)=false)∧k (.v pl lo len) st a
    | none=>False
   | y=>eu (y.copy||vY y) (k y st a)
 | .pk c x y=>match st.ev c with
  | .b z=>yt a fun w a=>z=w∧(match w with
   | true=>eu (st.ev x).copy (k (st.ev x) st a)
   | false=>eu (st.ev y).copy (k (st.ev y) st a))
  | _=>False
 | .bx x=>match d with
  | some d=>((st.ev x).deep E.dp&&(st.fr.all (fun y=>y.2.aW ⟨E.dp,d⟩)&&st.bx.all (fun y=>AV.bR ⟨E.dp,d⟩ y.2)))=true∧
   eu ((st.ev x).copy&&(st.ev x).cl.all AV.one&&fx st.bx d) (k (.p ⟨E.dp,d⟩ 0) {st with bx:=(d,(st.ev x).cl)::st.bx} a)
  | none=>False
 | .al zs=>match d with
  | some d=>(st.fr.all (fun y=>y.2.aW ⟨E.dp,d⟩)&&st.bx.all (fun y=>AV.bR ⟨E.dp,d⟩ y.2))=true∧eu (fx st.bx d) (k (.p ⟨E.dp,d⟩ 0) {st with bx:=(d,zs)::st.bx} a)
  | none=>False
 | .ld n x=>L6 E st n (st.ev x) a k
 | .st n x y=>L7 E st n (st.ev x) (st.ev y) y a k
 | .fa off x=>match st.ev x with
  | .p kk o=>k (.p kk (o+off)) st a
  | .e y o=>k (.e y (o+off)) st a
  | .q pl i sz o=>jE E st pl a fun _ es a=>i<es.length∧k (.q pl i sz (o+off)) st a
  | _=>False
 | .fd n off x=>match st.ev x with
  | .a cs=>match pick n off cs with
   | some y=>k y st a
   | none=>False
  | _=>False
 | .ia sz arr x i=>Ce (st.ev i) a fun j a=>L4 E st sz arr (st.ev x) x j a k
 | .bo op bl x y=>L5 st op bl (st.ev x) (st.ev y) a k
 | .no x=>match st.ev x with
  | .b y=>k (.b (!y)) st a
  | _=>False
 | .ae ks ng x y=>match st.ev x,st.ev y with
  | .a xs,.a ys=>yt a fun r a=>fi ks xs ys=some r∧k (.b (if ng then !r else r)) st a
  | _,_=>False
 | .cv ki x=>match st.ev x with
  | .i _ n=>wR a fun r a=>ki.wrap n=r∧k (.i ki r) st a
  | _=>False
 | .bs t sz es=>match d with
  | some d=>eu ((es.map st.ev).all fun y=>y.pure&&y.cl.all AV.one&&y.nc==sz) (qO a fun vs a=>es.map st.ev=vs∧k (.o t vs) (st.az (.s d)) a)
  | none=>False
 | .bd zs fs=>eu (fs.all fun f=>(st.ev f.2.2).copy&&(st.ev f.2.2).nc==f.2.1&&(st.ev f.2.2).cl.all AV.one&&decide (f.1+f.2.1≤zs.length))
   (k (.a (fs.foldl (fun cs f=>putCells cs f.1 (st.ev f.2.2).cl) zs)) st a)
 | .ms t _ by_ x n=>match d with
  | some d=>Ce (st.ev n) a fun n a=>qO a fun es a=>n*by_≤140737488355328∧n≤maxLen∧List.replicate n x=es∧k (.o t es) (st.az (.s d)) a
  | none=>False
 | .sl t sz x lo hi=>L8 E st t sz (st.ev x) (lo.map st.ev) (hi.map st.ev) a k
 | .ex x i=>match st.ev x with
  | .tp vs=>match vs[i]? with
   | some y=>k y st a
   | none=>False
  | _=>False
 | .mf f caps=>eu (AV.jA (caps.map st.ev)) (k (.f f (caps.map st.ev)) st a)
 | .ca m f args=>Ge G Ω E st m f (args.map st.ev) a k
 | .cf m x args=>match st.ev x with
  | .f f caps=>Ge G Ω E st m f (args.map st.ev++caps) a k
  | _=>False
 | .c2 f args=>Jn G Ω E st f (args.map st.ev) a k
 | .d2 x args=>match st.ev x with
  | .f f caps=>Jn G Ω E st f (args.map st.ev++caps) a k
  | _=>False
 | .c3 f args=>L9 G Ω E st f (args.map st.ev) a k
 | .d3 x args=>match st.ev x with
  | .f f caps=>L9 G Ω E st f (args.map st.ev++caps) a k
  | _=>False
 | .cn f args=>match d with
  | some dd=>Uv G Ω E st dd f (args.map st.ev) a k
  | none=>False
 | .ck f args=>match d with
  | some dd=>Uw G Ω E st dd f (args.map st.ev) a k
  | none=>False
 | .cr t f args=>match d with
  | some dd=>eu (AV.aO (args.map st.ev)) (Ω f (args.map st.ev)=some (.o t [])∧k (.o t []) (st.az (.s dd)) a)
  | none=>False
 | .ln str x=>match st.ev x with
  | .s l=>eu str (wR a fun n a=>(l.length:Int)=n∧k (.i .i64 n) st a)
  | y=>eu (!str) (yu E st y a fun _ es a=>wR a fun n a=>(es.length:Int)=n∧k (.i .i64 n) st a)
 | .ap t sz by_ x y=>match d with
  | some d=>yu E st (st.ev y) a fun _ ys a=>xi E st t x a fun es st' a=>qO a fun r a=>
    ys.all (fun e=>e.nc==sz)=true∧(es.length+ys.length)*by_≤140737488355328∧es.length+ys.length≤maxLen∧es++ys=r∧k (.o t r) (st'.az (.s d)) a
  | none=>False
 | .nc x=>match st.ev x with
  | .p kk o=>k (.p kk o) st a
  | .e y o=>k (.e y o) st a
  | .f g caps=>k (.f g caps) st a
  | _=>False
 | .ch _ _ _ _ _=>False
 | .bg zs fs=>eu (fs.all (Ff st zs.length)) (k (.ag (fs.foldl (pv st) (zs,[])).1 (fs.foldl (pv st) (zs,[])).2) st a)
 | .bxg x=>match d with
  | some dd=>(match st.ev x with
   | .ag cs rs=>eu (cs.all (fun c=>c.copy||Ec c)&&AV.bN E.dp cs&&nh E.dp st dd) (match rY dd {st with bx:=(dd,cs)::st.bx} rs with
    | some st'=>k (.p ⟨E.dp,dd⟩ 0) st' a
    | none=>False)
   | _=>False)
  | none=>False
 | .lk _ _ _ _=>False
end
section
variable {G:kY}{Ω:bL}{E:Env}{st:St}{d:Option Nat}
def Told(o:kv)(k:KW)(G:kY)(Ω:bL)(E:Env)(st:St)(d:Option Nat):Prop:=∃ x st' r,execOp (call G Ω) Ω E st d o=some (x,st')∧k x st' r
theorem Told.mk{o:kv}{k:KW}{x:AV}{st':St}{r:AT}(h:execOp (call G Ω) Ω E st d o=some (x,st'))(hk:k x st' r):Told o k G Ω E st d:=⟨x,st',r,h,hk⟩
theorem sb{sz:Nat}{es:List AV}{j:Nat}{e:AV}{f:AV→AV}(h:es[j]? =some e)(hn:e.nc=sz):elemAt sz st es[j]? f=some (f e,st):=by
 rw [h];simp only [elemAt,Option.bind_some,hn,if_true]
theorem Ma{op:BinOp}{bl:Bool}{x y:aA}{a:AT}{k:KW}(h:L5 st op bl (st.ev x) (st.ev y) a k):Told (.bo op bl x y) k G Ω E st d:=by
 unfold L5 at h
 split at h
 ·rename_i ki m ki' n hx hy
  split at h
  ·rename_i hki
   subst hki
   split at h
   ·obtain ⟨r,a',h1,h2⟩:=oe h
    exact .mk (by simp only [execOp,hx,hy,kX,if_true,nG,h1,Option.bind_some]) h2
   ·obtain ⟨r,a',h1,h2⟩:=oe h
    exact .mk (by simp only [execOp,hx,hy,kX,if_true,nG,h1,Option.bind_some]) h2
   ·obtain ⟨r,a',h1,h2⟩:=oe h
    exact .mk (by simp only [execOp,hx,hy,kX,if_true,nG,h1,Option.bind_some]) h2
   ·obtain ⟨r,a',h0,h1,h2⟩:=oe h
    exact .mk (by simp only [execOp,hx,hy,kX,if_true,nG,if_neg h0,h1,Option.bind_some]) h2
   ·obtain ⟨r,a',h0,h1,h2⟩:=oe h
    exact .mk (by simp only [execOp,hx,hy,kX,if_true,nG,if_neg h0,h1,Option.bind_some]) h2
   ·obtain ⟨r,a',h1,h2⟩:=oe h
    exact .mk (by simp only [execOp,hx,hy,kX,if_true,nG,h1,Option.bind_some]) h2
   ·exact .mk (by simp only [execOp,hx,hy,kX,if_true,nG,Option.bind_some]) h
   ·exact .mk (by simp only [execOp,hx,hy,kX,if_true,nG,Option.bind_some]) h
   ·exact .mk (by simp only [execOp,hx,hy,kX,if_true,nG,Option.bind_some]) h
   ·exact .mk (by simp only [execOp,hx,hy,kX,if_true,nG,Option.bind_some]) h
   ·exact .mk (by simp only [execOp,hx,hy,kX,if_true,nG,Option.bind_some]) h
   ·exact .mk (by simp only [execOp,hx,hy,kX,if_true,nG,Option.bind_some]) h
   ·exact h.elim
  ·exact h.elim
 ·rename_i m n hx hy
  split at h
  ·exact .mk (by simp only [execOp,hx,hy,kX,if_true,Option.bind_some]) h
  ·exact .mk (by simp only [execOp,hx,hy,kX,if_true,Option.bind_some]) h
  ·exact h.elim
 ·rename_i m n hx hy
  split at h
  ·obtain ⟨r,a',h0,h1,h2⟩:=Gd h
   exact .mk (by simp only [execOp,hx,hy,kX,if_pos h0,h1,Option.bind_some]) h2
  ·exact .mk (by simp only [execOp,hx,hy,kX,Option.bind_some]) h
  ·exact .mk (by simp only [execOp,hx,hy,kX,Option.bind_some]) h
  ·exact h.elim
 ·exact h.elim
theorem Mb{n:Option Nat}{x:aA}{a:AT}{k:KW}(h:L6 E st n (st.ev x) a k):Told (.ld n x) k G Ω E st d:=by
 unfold L6 at h
 split at h
 ·rename_i kk off hx
  obtain ⟨cs,r,h1,h2⟩:=qC h
  split at h2
  ·rename_i t es hp
   exact .mk (by simp only [execOp,hx,h1,hp,Option.bind_some]) h2
  ·rename_i y hy hp
   obtain ⟨h3,h4⟩:=bz h2
   refine .mk (x:=y) (st':=st) ?_ h4
   simp only [execOp,hx,h1,hp,Option.bind_some,if_pos h3]
  ·exact h2.elim
 ·rename_i y off hx
  split at h
  ·rename_i z hp
   exact .mk (by simp only [execOp,hx,hp,Option.bind_some]) h
  ·exact h.elim
 ·rename_i pl i sz off hx
  obtain ⟨t,es,r,h1,h2⟩:=dZ h
  obtain ⟨e,r',h3,h4,h5⟩:=qQ h2
  split at h5
  ·rename_i z hp
   exact .mk (by simp only [execOp,hx,h1,h3,hp,h4,if_true,Option.bind_some]) h5
  ·exact h5.elim
 ·exact h.elim
theorem Mc{n:Nat}{x y:aA}{a:AT}{k:KW}(h:L7 E st n (st.ev x) (st.ev y) y a k):Told (.st n x y) k G Ω E st d:=by
 unfold L7 at h
 split at h
 ·rename_i kk off hx
  obtain ⟨hro,h⟩:=h
  obtain ⟨cs,r,h1,h2⟩:=qC h
  split at h2
  ·rename_i t es hy
   split at h2
   ·rename_i m
    obtain ⟨h3,h4⟩:=bz h2
    obtain ⟨r',h5⟩:=lS h4
    exact .mk (by simp only [execOp,hx,Fl hro _,if_true,h1,hy,Option.bind_some,if_pos h3]) h5
   ·exact h2.elim
  ·rename_i pl lo len hy
   obtain ⟨rfl,h2⟩:=h2
   obtain ⟨h3,h4⟩:=bz h2
   obtain ⟨t,es,r1,h5,h6⟩:=dZ h4
   obtain ⟨es',r2,h7,rfl,h9⟩:=iH h6
   obtain ⟨r',h10⟩:=lS h9
   simp only [Bool.and_eq_true] at h3
   exact .mk (by simp only [execOp,hx,Fl hro _,if_true,h1,hy,Option.bind_some,h3.1,h3.2,Bool.and_self,decide_true,Bool.true_and,h5,if_pos h7,true_and,and_self]) h10
  ·rename_i y' hy1 hy2
   obtain ⟨h0,h2⟩:=h2
   obtain ⟨h3,h4⟩:=bz h2
   obtain ⟨r',h5⟩:=lS h4
   have h6:((st.ev y).copy&&(st.ev y).nc==n&&(st.ev y).cl.all AV.one&&(st.ev y).deep kk.dp&&decide (off+n≤cs.length))=true:=by
    simp only [Bool.and_eq_true] at h3 ⊢
    exact ⟨⟨h3.1,h0⟩,h3.2⟩
   refine .mk (x:=.u) (st':=st.au E.dp kk (putCells cs off (st.ev y).cl)) ?_ h5
   simp only [execOp,hx,Fl hro _,if_true,h1,Option.bind_some,if_pos h6]
 ·rename_i pl i sz off hx
  obtain ⟨hro,h⟩:=h
  obtain ⟨t,es,r,h1,h2⟩:=dZ h
  obtain ⟨e,r1,h3,h4⟩:=sW h2
  obtain ⟨h5,h6⟩:=bz h4
  obtain ⟨es',r2,rfl,h8⟩:=iH h6
  obtain ⟨st',r3,h9,h10⟩:=u6 h8
  exact .mk (by simp only [execOp,hx,oM hro,if_true,h1,h3,Option.bind_some,if_pos h5,h9]) h10
 ·exact h.elim
theorem qD{x:Option aA}{dflt:Nat}{a:AT}{k:Nat→AT→Prop}(h:xh (x.map st.ev) dflt a k):∃ j r,jB st x dflt=some j∧k j r:=by
 cases x with
 | none=>exact ⟨dflt,a,rfl,h⟩
 | some y=>
  obtain ⟨j,r,h1,h2⟩:=zG (x:=st.ev y) h
  exact ⟨j,r,h1,h2⟩
theorem Md{t sz:Nat}{x:aA}{lo hi:Option aA}{a:AT}{k:KW}(h:L8 E st t sz (st.ev x) (lo.map st.ev) (hi.map st.ev) a k):Told (.sl t sz x lo hi) k G Ω E st d:=by
 unfold L8 at h
 split at h
 ·rename_i l hx
  obtain ⟨i,r1,h1,h2⟩:=qD h
  obtain ⟨j,r2,h3,h4⟩:=qD h2
  obtain ⟨z,r3,rfl,h5,h6,rfl,h8⟩:=Gd h4
  exact .mk (by simp [execOp,hx,h1,h3,h5,h6]) h8
 ·rename_i t' es hx
  obtain ⟨i,r1,h1,h2⟩:=qD h
  obtain ⟨j,r2,h3,h4⟩:=qD h2
  obtain ⟨z,r3,h0,hall,h5,h6,rfl,h8⟩:=iH h4
  exact .mk (by simp only [execOp,hx,h1,h3,Option.bind_some,hall,bne_iff_ne,ne_eq,h0,not_false_eq_true,h5,h6,decide_true,Bool.and_true,Bool.and_self,if_true]) h8
 ·rename_i pl hx
  obtain ⟨t',es,r0,hr,h⟩:=dZ h
  obtain ⟨i,r1,h1,h2⟩:=qD h
  obtain ⟨j,r2,h3,h4⟩:=qD h2
  obtain ⟨m,r3,h5⟩:=Gc h4
  obtain ⟨h6,h7,h8,rfl,h10⟩:=bz h5
  exact .mk (by simp only [execOp,hx,hr,h1,h3,Option.bind_some,h6,h7,h8,decide_true,Bool.and_self,if_true]) h10
 ·exact h.elim
theorem DO{t:TypeId}{x:aA}{a:AT}{k:List AV→St→AT→Prop}(h:xi E st t x a k):∃ es st' r,consume E st t x=some (es,st')∧k es st' r:=by
 unfold xi at h
 split at h
 ·exact ⟨_,_,a,rfl,h⟩
 ·exact h.elim
 ·rename_i m
  split at h
  ·rename_i hx
   exact ⟨_,_,a,by simp only [consume,hx],h⟩
  ·rename_i t' es hx
   obtain ⟨h1,h2⟩:=bz h
   exact ⟨_,_,a,by simp only [consume,hx,if_pos (beq_iff_eq.1 h1)],h2⟩
  ·rename_i pl hx
   obtain ⟨hro,h⟩:=h
   obtain ⟨t',es,r,h1,h2⟩:=dZ h
   obtain ⟨h3,h4⟩:=bz h2
   obtain ⟨st',r',h5,h6⟩:=u6 h4
   exact ⟨_,_,r',by simp only [consume,hx,oM hro,if_true,h1,Option.bind_some,if_pos (beq_iff_eq.1 h3),h5],h6⟩
  ·rename_i pl lo len hx
   obtain ⟨hro,h⟩:=h
   obtain ⟨h0,h⟩:=bz h
   obtain ⟨t',es,r,h1,h2⟩:=dZ h
   obtain ⟨es',r2,h3,h4,rfl,h6⟩:=iH h2
   obtain ⟨st',r',h7,h8⟩:=u6 h6
   exact ⟨_,_,r',by simp only [consume,hx,oM hro,h0,Bool.and_self,if_true,h1,Option.bind_some,if_pos (And.intro h3 h4),h7],h8⟩
  ·exact h.elim
theorem Me{sz:Nat}{arr:Option Nat}{x i:aA}{j:Nat}{a:AT}{k:KW}(hj:nj (st.ev i)=some j)(h:L4 E st sz arr (st.ev x) x j a k):Told (.ia sz arr x i) k G Ω E st d:=by
 unfold L4 at h
 split at h
 ·rename_i len
  obtain ⟨h1,h⟩:=h
  split at h
  ·rename_i kk o hx
   exact .mk (by simp only [execOp,hj,Option.bind_some,if_pos h1,hx]) h
  ·rename_i y o hx
   exact .mk (by simp only [execOp,hj,Option.bind_some,if_pos h1,hx]) h
  ·exact h.elim
 ·split at h
  ·rename_i t es hx
   obtain ⟨e,r,h1,h2,h3⟩:=qQ h
   exact .mk (by simp only [execOp,hj,Option.bind_some,hx];exact sb h1 h2) h3
  ·rename_i t es hx
   split at h
   ·rename_i m
    obtain ⟨e,r,h1,h2,h3⟩:=qQ h
    exact .mk (by simp only [execOp,hj,Option.bind_some,hx];exact sb h1 h2) h3
   ·exact h.elim
  ·rename_i pl hx
   obtain ⟨t,es,r0,h0,h⟩:=dZ h
   obtain ⟨e,r,h1,h2,h3⟩:=qQ h
   exact .mk (by simp only [execOp,hj,Option.bind_some,hx,h0];exact sb h1 h2) h3
  ·rename_i pl lo len hx
   obtain ⟨t,es,r0,h0,h4,h5,h⟩:=dZ h
   obtain ⟨e,r,h1,h2,h3⟩:=qQ h
   exact .mk (by simp only [execOp,hj,Option.bind_some,hx,if_pos h4,h0,if_pos h5];exact sb h1 h2) h3
  ·exact h.elim
theorem Cf{m:Nat}{f:FuncId}{args:List AV}{a:AT}{k:KW}(h:Ge G Ω E st m f args a k):∃ x r,bE (call G Ω) Ω E st m f args=some (x,st)∧k x st r:=by
 unfold Ge at h
 split at h
 ·obtain ⟨ys,ts,r,h1,h2⟩:=nI h
  obtain ⟨x,r1,h3,h4⟩:=sW h2
  have h5:∃ b,(x.pure&&(ts.isEmpty||x.off ts))=true∧b=r1∧k x st b:=by
   split at h4
   ·obtain ⟨h5,h6⟩:=bz h4
    exact ⟨r1,by simp [h5],rfl,h6⟩
   ·exact ⟨r1,by simp [h4.1,h4.2.1],rfl,h4.2.2⟩
  obtain ⟨b,h6,rfl,h7⟩:=h5
  exact ⟨x,b,by simp only [bE,h1,Option.bind_some,h3,h6,if_true],h7⟩
 ·obtain ⟨ys,ts,r,h1,h2⟩:=nI h
  obtain ⟨x,r1,h3,h4⟩:=sW h2
  have h5:∃ b,(x.pure&&(ts.isEmpty||x.off ts))=true∧b=r1∧k x st b:=by
   split at h4
   ·obtain ⟨h5,h6⟩:=bz h4
    exact ⟨r1,by simp [h5],rfl,h6⟩
   ·exact ⟨r1,by simp [h4.1,h4.2.1],rfl,h4.2.2⟩
  obtain ⟨b,h6,rfl,h7⟩:=h5
  exact ⟨x,b,by simp only [bE,h1,Option.bind_some,h3,h6,if_true],h7⟩
 ·exact h.elim
theorem Gf{f:FuncId}{args:List AV}{a:AT}{k:KW}(h:Jn G Ω E st f args a k):∃ x st' r,cm (call G Ω) Ω E st f args=some (x,st')∧k x st' r:=by
 unfold Jn at h
 split at h
 ·rename_i hc
  obtain ⟨x,r,h1,h2⟩:=Cf h
  exact ⟨x,st,r,by rw [cm,if_pos hc];exact h1,h2⟩
 ·rename_i hc
  obtain ⟨h1,h2,h⟩:=h
  obtain ⟨h3,h⟩:=bz h
  obtain ⟨x,r1,h⟩:=sW h
  obtain ⟨hp2,r2,h⟩:=qP h
  obtain ⟨bx,r3,h⟩:=Ef h
  obtain ⟨hp3,r4,h4,rfl,rfl,h5⟩:=qP h
  refine ⟨x,st.back E.dp hp2,r4,?_,h5⟩
  rw [cm,if_neg (by rw [hc];simp)]
  simp only [h1,h2,h3,Bool.not_false,Bool.and_self,if_true,h4,Option.bind_some]
theorem Gg{f:FuncId}{args:List AV}{a:AT}{k:KW}(h:L9 G Ω E st f args a k):∃ x r,iu (call G Ω) E st f args=some (x,st)∧k x st r:=by
 obtain ⟨h1,h⟩:=h
 obtain ⟨h2,h⟩:=bz h
 obtain ⟨x,r1,h⟩:=sW h
 obtain ⟨hp2,r2,h3,h⟩:=qP h
 obtain ⟨h4,h5⟩:=bz h
 exact ⟨x,r2,by simp only [iu,h1,h2,Bool.and_self,if_true,h3,Option.bind_some,h4],h5⟩
theorem Cg{o:kv}{a:AT}{k:KW}(h:jf G Ω E st d a o k):Told o k G Ω E st d:=by
 cases o with
 | mv x=>
  simp only [jf] at h
  split at h
  ·rename_i t es hx
   split at h
   ·exact .mk (by simp only [execOp,hx]) h
   ·exact h.elim
  ·rename_i hx
   refine .mk (x:=st.ev x) (st':=st) ?_ h
   simp only [execOp]
 | as x=>
  cases x with
  | c y=>
   obtain ⟨h1,h2⟩:=bz h
   exact .mk (by simp only [execOp,h1,if_true]) h2
  | t n=>
   simp only [jf] at h
   split at h
   ·rename_i t es hx
    split at h
    ·exact .mk (by simp only [execOp,hx,Option.bind_some]) h
    ·exact h.elim
   ·rename_i pl lo len hx
    split at h
    ·rename_i dd
     obtain ⟨own,r,h⟩:=py h
     cases own with
     | true=>
      obtain ⟨rfl,h⟩:=h
      obtain ⟨h1,h⟩:=bz h
      obtain ⟨t,es,r1,h2,h⟩:=dZ h
      obtain ⟨es',r2,h3,rfl,h5⟩:=iH h
      exact .mk (by simp only [execOp,hx,Option.bind_some,h1,decide_true,Bool.and_self,and_self,if_true,h2,if_pos h3]) h5
     | false=>
      obtain ⟨h1,h2⟩:=h
      refine .mk (x:=.v pl lo len) (st':=st) ?_ h2
      simp only [execOp,hx,Option.bind_some]
      rw [if_neg]
      simp only [Bool.and_eq_true,decide_eq_true_eq]
      rintro ⟨h3,h4⟩
      rw [h1 h3] at h4
      cases h4
    ·exact h.elim
   ·rename_i hx1 hx2
    obtain ⟨h1,h2⟩:=bz h
    refine .mk (x:=af st.fr n) (st':=st) ?_ h2
    simp only [execOp,if_pos h1]
 | pk c x y=>
  simp only [jf] at h
  split at h
  ·rename_i z hc
   obtain ⟨w,r,rfl,h⟩:=py h
   cases z with
   | true=>
    obtain ⟨h1,h2⟩:=bz h
    exact .mk (by simp only [execOp,hc,nQ,Option.bind_some,if_true,h1]) h2
   | false=>
    obtain ⟨h1,h2⟩:=bz h
    exact .mk (by simp only [execOp,hc,nQ,Option.bind_some,Bool.false_eq_true,if_false,h1,if_true]) h2
  ·exact h.elim
 | bx x=>
  simp only [jf] at h
  split at h
  ·rename_i dd
   obtain ⟨h1,h⟩:=h
   obtain ⟨h2,h3⟩:=bz h
   simp only [Bool.and_eq_true] at h1 h2
   exact .mk (by simp only [execOp,Option.bind_some,h1.1,h1.2.1,h1.2.2,h2.1.1,h2.1.2,h2.2,Bool.and_self,if_true]) h3
  ·exact h.elim
 | al zs=>
  simp only [jf] at h
  split at h
  ·rename_i dd
   obtain ⟨h1,h⟩:=h
   obtain ⟨h2,h3⟩:=bz h
   simp only [Bool.and_eq_true] at h1
   exact .mk (by simp only [execOp,Option.bind_some,h1.1,h1.2,h2,Bool.and_self,if_true]) h3
  ·exact h.elim
 | ld n x=>exact Mb h
 | st n x y=>exact Mc h
 | fa off x=>
  simp only [jf] at h
  split at h
  ·rename_i hx;exact .mk (by simp only [execOp,hx]) h
  ·rename_i hx;exact .mk (by simp only [execOp,hx]) h
  ·rename_i hx
   obtain ⟨t,es,r,h1,h2,h3⟩:=dZ h
   exact .mk (by simp only [execOp,hx,h1,Option.bind_some,if_pos h2]) h3
  ·exact h.elim
 | fd n off x=>
  simp only [jf] at h
  split at h
  ·rename_i cs hx
   split at h
   ·rename_i y hy
    exact .mk (by simp only [execOp,hx,hy,Option.bind_some]) h
   ·exact h.elim
  ·exact h.elim
 | ia sz arr x i=>
  obtain ⟨j,r,h1,h2⟩:=zG (x:=st.ev i) h
  exact Me h1 h2
 | bo op bl x y=>exact Ma h
 | no x=>
  simp only [jf] at h
  split at h
  ·rename_i y hx
   exact .mk (by simp only [execOp,hx,nQ,Option.bind_some]) h
  ·exact h.elim
 | ae ks ng x y=>
  simp only [jf] at h
  split at h
  ·rename_i hx hy
   obtain ⟨r,a',h1,h2⟩:=py h
   exact .mk (by simp only [execOp,hx,hy,h1,Option.bind_some]) h2
  ·exact h.elim
 | cv ki x=>
  simp only [jf] at h
  split at h
  ·rename_i hx
   obtain ⟨r,a',h1,h2⟩:=oe h
   exact .mk (by simp only [execOp,hx,h1]) h2
  ·exact h.elim
 | bs t sz es=>
  simp only [jf] at h
  split at h
  ·obtain ⟨h1,h2⟩:=bz h
   obtain ⟨vs,r,rfl,h3⟩:=iH h2
   exact .mk (by simp only [execOp,Option.bind_some,h1,if_true]) h3
  ·exact h.elim
 | bd zs fs=>
  obtain ⟨h1,h2⟩:=bz h
  exact .mk (by simp only [execOp,h1,if_true]) h2
 | ms t sz by_ x n=>
  simp only [jf] at h
  split at h
  ·obtain ⟨m,r,h1,h2⟩:=zG h
   obtain ⟨es,r2,h3,h4,rfl,h6⟩:=iH h2
   exact .mk (by simp only [execOp,Option.bind_some,h1,h3,h4,decide_true,Bool.and_self,if_true]) h6
  ·exact h.elim
 | sl t sz x lo hi=>exact Md h
 | ex x i=>
  simp only [jf] at h
  split at h
  ·rename_i vs hx
   split at h
   ·rename_i y hy
    exact .mk (by simp only [execOp,hx,hy,Option.bind_some]) h
   ·exact h.elim
  ·exact h.elim
 | mf f caps=>
  obtain ⟨h1,h2⟩:=bz h
  exact .mk (by simp only [execOp,h1,if_true]) h2
 | ca m f args=>
  obtain ⟨x,r,h1,h2⟩:=Cf h
  exact .mk h1 h2
 | cf m x args=>
  simp only [jf] at h
  split at h
  ·rename_i f caps hx
   obtain ⟨x,r,h1,h2⟩:=Cf h
   exact .mk (by simp only [execOp,hx];exact h1) h2
  ·exact h.elim
 | c2 f args=>
  obtain ⟨x,st',r,h1,h2⟩:=Gf h
  exact .mk h1 h2
 | d2 x args=>
  simp only [jf] at h
  split at h
  ·rename_i f caps hx
   obtain ⟨x,st',r,h1,h2⟩:=Gf h
   exact .mk (by simp only [execOp,hx];exact h1) h2
  ·exact h.elim
 | c3 f args=>
  obtain ⟨x,r,h1,h2⟩:=Gg h
  exact .mk h1 h2
 | d3 x args=>
  simp only [jf] at h
  split at h
  ·rename_i f caps hx
   obtain ⟨x,r,h1,h2⟩:=Gg h
   exact .mk (by simp only [execOp,hx];exact h1) h2
  ·exact h.elim
 | cn f args=>
  simp only [jf] at h
  split at h
  ·rename_i dd
   obtain ⟨h1,h2,h⟩:=h
   obtain ⟨h3,h⟩:=bz h
   obtain ⟨cs,r1,h⟩:=iH h
   obtain ⟨hp2,r2,h⟩:=qP h
   obtain ⟨bx,r3,h⟩:=Ef h
   obtain ⟨hp3,r4,h4,rfl,rfl,h5,h6⟩:=qP h
   refine .mk (x:=.p ⟨E.dp,dd⟩ 0) (st':={(st.back E.dp hp2) with bx:=(dd,cs)::(st.back E.dp hp2).bx}) ?_ h6
   have h5':nh E.dp (st.back E.dp hp2) dd=true:=h5
   simp only [execOp,Option.bind_some,sT,h1,h2,h3,Bool.not_false,Bool.and_self,if_true,h4,h5']
  ·exact h.elim
 | ck f args=>
  simp only [jf] at h
  split at h
  ·rename_i dd
   obtain ⟨h1,h⟩:=bz h
   obtain ⟨cs,r1,h⟩:=iH h
   obtain ⟨hp2,r2,h4,h5,h6⟩:=qP h
   exact .mk (by simp only [execOp,Option.bind_some,sU,h1,if_true,h4,h5]) h6
  ·exact h.elim
 | cr t f args=>
  simp only [jf] at h
  split at h
  ·rename_i dd
   obtain ⟨h1,h2,h3⟩:=bz h
   exact .mk (by simp only [execOp,Option.bind_some,zB,h1,if_true,h2]) h3
  ·exact h.elim
 | ln str x=>
  simp only [jf] at h
  split at h
  ·rename_i l hx
   obtain ⟨h1,h2⟩:=bz h
   obtain ⟨n,r,h3,h4⟩:=oe h2
   exact .mk (by simp only [execOp,hx,h1,if_true,h3]) h4
  ·rename_i hx
   obtain ⟨h1,h2⟩:=bz h
   obtain ⟨t,es,r,h3,h4⟩:=AX h2
   obtain ⟨n,r,h5,h6⟩:=oe h4
   have hs:str=false:=by simpa using h1
   refine .mk (x:=.i .i64 n) (st':=st) ?_ h6
   have hsp:∀ kk o m s,st.ev x≠.sp kk o m s:=fun kk o m s e=>by rw [e] at h3;cases h3
   simp only [execOp,hs,Bool.false_eq_true,if_false]
   simp only [h3,Option.bind_some,h5]
 | ap t sz by_ x y=>
  simp only [jf] at h
  split at h
  ·obtain ⟨t',ys,r,h1,h2⟩:=AX h
   obtain ⟨es,st',r2,h3,h4⟩:=DO h2
   obtain ⟨z,r3,h5,h6,h7,rfl,h9⟩:=iH h4
   exact .mk (by simp only [execOp,Option.bind_some,h1,h3,h5,h6,h7,decide_true,Bool.and_self,if_true]) h9
  ·exact h.elim
 | nc x=>
  simp only [jf] at h
  split at h
  ·rename_i hx;exact .mk (by simp only [execOp,hx]) h
  ·rename_i hx;exact .mk (by simp only [execOp,hx]) h
  ·rename_i hx;exact .mk (by simp only [execOp,hx]) h
  ·exact h.elim
 | ch f args sl dl ow=>exact (show False from h).elim
 | bg zs fs=>
  obtain ⟨h1,h2⟩:=bz h
  exact .mk (by simp only [execOp,h1,if_true]) h2
 | bxg x=>
  simp only [jf] at h
  split at h
  ·rename_i dd
   split at h
   ·rename_i cs rs hx
    obtain ⟨h1,h2⟩:=bz h
    split at h2
    ·rename_i st' ht
     exact .mk (by simp only [execOp,Option.bind_some,hx,h1,if_true,ht,Option.map_some]) h2
    ·exact h2.elim
   ·exact h.elim
  ·exact h.elim
 | lk n x y lv=>exact (show False from h).elim
end
section
variable (G:kY)(Ω:bL)(E:Env)
abbrev KS:=St→AT→Prop
noncomputable def gW(st:St)(g:cV)(a:AT)(q:KS):Prop:=
 match g.g with
 | none=>jf G Ω E st g.d a g.o fun x st' a=>q (put st' g.d (dk g.fz x)) a
 | some (j,want)=>match af st.fr j with
  | .b x=>yt a fun y a=>(x==want)=y∧(match y with
   | true=>jf G Ω E st g.d a g.o fun x st' a=>q (put st' g.d (dk g.fz x)) a
   | false=>q (put st g.d .sk) a)
  | .sk=>q (put st g.d .sk) a
  | _=>False
def xj(dp:Nat)(p:aY)(v:St)(q:Prop):Prop:=
 match p.p.o with
 | .st _ x y=>(match uX (v.ev y) with
  | false=>q
  | true=>match v.ev x with
   | .p k _=>k.dp=dp∧eu (p.vb==[k.d]&&(match y with
    | .t m=>p.cs==[m]
    | .c _=>false)) q
   | _=>False)
 | .ap _ _ _ x _=>eu (zC (v.ev x)==(p.cs.length==2)) q
 | _=>q
theorem DP{dp:Nat}{p:aY}{v:St}{q:Prop}(h:xj dp p v q):dR dp p v=true∧q:=by
 unfold xj at h
 unfold dR
 split at h
 ·rename_i n x y ho
  simp only [ho]
  split at h
  ·rename_i hy
   exact ⟨by rw [hy];rfl,h⟩
  ·rename_i hy
   split at h
   ·rename_i k off hx
    obtain ⟨h1,h2⟩:=h
    obtain ⟨h3,h4⟩:=bz h2
    refine ⟨?_,h4⟩
    rw [hy,hx]
    simp only [Bool.and_eq_true] at h3
    simp only [h1,decide_true,h3.1,Bool.not_true,Bool.false_or,Bool.true_and]
    exact h3.2
   ·exact h.elim
 ·rename_i ho
  simp only [ho]
  exact bz h
 ·rename_i hne hna
  refine ⟨?_,h⟩
  split
  ·rename_i n x y ho
   exact (hne _ _ _ ho).elim
  ·rename_i ho
   exact (hna _ _ _ _ _ ho).elim
  ·rfl
noncomputable def Fm(st:St)(p:aY)(a:AT)(q:KS):Prop:=
 eu (fA (view p st) p.p.o) (xj E.dp p (view p st) (jf G Ω E (view p st) p.p.d a p.p.o fun x v' a=>(oa E.dp p.nk x&&okB E.dp p.nb x)=true∧q ((effect p (x,v')).app st) a))
noncomputable def dW(st:St)(p:aY)(a:AT)(q:KS):Prop:=
 match p.lt with
 | true=>match p.p.g with
  | none=>Fm G Ω E st p a q
  | some (j,want)=>match af st.fr j with
   | .b x=>yt a fun y a=>(x==want)=y∧(match y with
    | true=>Fm G Ω E st p a q
    | false=>q ((⟨fj p.p.d .sk,[],[],none⟩:aL).app st) a)
   | .sk=>q ((⟨fj p.p.d .sk,[],[],none⟩:aL).app st) a
   | _=>False
 | false=>gW G Ω E st p.p a q
noncomputable def jF(kf kb:List Nat)(gs:List cV)(st:St):Option St:=(iv (call G Ω) Ω E st gs).map fun s=>s.aD kf kb
noncomputable def tS(kf kb:List Nat)(gs:List aY)(st:St):Option St:=(im (call G Ω) Ω E st gs).map fun s=>s.aD kf kb
def Mf(d:Option Nat)(m n:Nat)(d':Option Nat):Bool:=(match d,d' with
 | some x,some y=>x==y
 | none,none=>true
 | _,_=>false)&&m==n
noncomputable def u7(kf kb:List Nat):St→List cV→AT→KS→Prop
 | st,[],a,q=>q (st.aD kf kb) a
 | st,g::gs,a,q=>match a with
  | .jb d n b=>(match Mf g.d gs.length n d with
   | true=>eR b fun b=>match b with
    | .co (.jn X) r=>jF G Ω E kf kb (g::gs) st=some X∧q X r
    | _=>False
   | false=>gW G Ω E st g (.jb d n b) fun st a=>u7 kf kb st gs a q)
  | a=>gW G Ω E st g a fun st a=>u7 kf kb st gs a q
noncomputable def u9(kf kb:List Nat):St→List aY→AT→KS→Prop
 | st,[],a,q=>q (st.aD kf kb) a
 | st,p::ps,a,q=>match a with
  | .jb d n b=>(match Mf p.p.d ps.length n d with
   | true=>eR b fun b=>match b with
    | .co (.jn X) r=>tS G Ω E kf kb (p::ps) st=some X∧q X r
    | _=>False
   | false=>dW G Ω E st p (.jb d n b) fun st a=>u9 kf kb st ps a q)
  | a=>dW G Ω E st p a fun st a=>u9 kf kb st ps a q
def qi(st:St)(p:qJ)(a:AT)(q:KS):Prop:=
 match p with
 | .own d t=>match af st.fr d with
  | .n=>q ((st.az (.s d)).ba d (.o t [])) a
  | .o _ _=>q st a
  | _=>False
 | .fz d=>match af st.fr d with
  | .o t es=>q (st.ba d (.l t es)) a
  | _=>False
 | .ownC d off t=>match af st.fr d with
  | .p k o=>E.ro=false∧(xg E st k a fun cs a=>match cs[o+off]? with
   | some .n=>oL E (st.az (.c k (o+off))) k (cs.set (o+off) (.o t [])) a q
   | some (.o _ _)=>q st a
   | _=>False)
  | _=>False
 | .fzC d off=>match af st.fr d with
  | .p k o=>E.ro=false∧(xg E st k a fun cs a=>match cs[o+off]? with
   | some (.o t es)=>oL E st k (cs.set (o+off) (.l t es)) a q
   | _=>False)
  | _=>False
 | .fzB d agg=>match af st.fr d with
  | .p k 0=>k.dp=E.dp∧(match aq st.bx k.d with
   | some cs=>eu (AV.aO cs) (match agg with
    | true=>q {(st.ba d (.e (.a cs) 0)) with bx:=st.bx.filter fun y=>y.1 !=k.d} a
    | false=>match cs with
     | [c]=>q {(st.ba d (.e c 0)) with bx:=st.bx.filter fun y=>y.1 !=k.d} a
     | _=>False)
   | none=>False)
  | _=>False
 | .vM d off nd sz=>match dJ E st (.vM d off nd sz) with
  | some st'=>q st' a
  | none=>False
 | .unp d off=>match dJ E st (.unp d off) with
  | some st'=>q st' a
  | none=>False
def Fp:St→List qJ→AT→KS→Prop
 | st,[],a,q=>q st a
 | st,p::ps,a,q=>qi E st p a fun st a=>Fp st ps a q
abbrev KX:=aE→St→AT→Prop
noncomputable def cW:AC→St→AT→KX→Prop
 | .sk,st,a,q=>q .nrm st a
 | .rg pre ops kf kb,st,a,q=>Fp E st pre a fun st a=>u7 G Ω E kf kb st ops a fun st a=>q .nrm st a
 | .dg pre mks ops kf kb,st,a,q=>Fp E st pre a fun st a=>(mks.all (ob E.dp st)&&ops.all (kx E.dp st))=true∧(u9 G Ω E kf kb st ops a fun st a=>q .nrm st a)
 | .sq x y,st,a,q=>cW x st a fun e st a=>match e with
  | .nrm=>cW y st a q
  | e=>q e st a
 | .ite c x y,st,a,q=>match st.ev c with
  | .b z=>yt a fun w a=>z=w∧(match w with
   | true=>cW x st a q
   | false=>cW y st a q)
  | _=>False
 | .bl id x,st,a,q=>cW x st a fun e st a=>match e with
  | .ex id'=>if id'=id then q .nrm st a else q (.ex id') st a
  | e=>q e st a
 | .lp (.kp kf kb x),st,a,q=>Fk a fun e st' a=>run G Ω E (.lp (.kp kf kb x)) (st.aD kf kb)=some (e,st')∧q e st' a
 | .lp x,st,a,q=>Fk a fun e st' a=>run G Ω E (.lp x) st=some (e,st')∧q e st' a
 | .ex id,st,a,q=>q (.ex id) st a
 | .rt,st,a,q=>q .ret st a
 | .bad,_,_,_=>False
 | .ru g x y b,st,a,q=>Fk a fun e st' a=>run G Ω E (.ru g x y b) st=some (e,st')∧q e st' a
 | .kp kf kb x,st,a,q=>match a with
  | .fb b=>eR b fun b=>match b with
   | .co (.fr e st') r=>run G Ω E x (st.aD kf kb)=some (e,st')∧q e st' r
   | _=>False
  | _=>cW x (st.aD kf kb) a q
def yv(st:St)(x:AV)(a:AT)(q:AV→AT→Prop):Prop:=
 match x with
 | .o t es=>q (.l t es) a
 | .r (.s d)=>jE E st (.s d) a fun t es a=>q (.l t es) a
 | .r (.c k off)=>k.dp=E.dp∧(jE E st (.c k off) a fun t es a=>q (.l t es) a)
 | .v (.s d) lo len=>jE E st (.s d) a fun t es a=>qO a fun es' a=>lo+len≤es.length∧(es.drop lo).take len=es'∧q (.l t es') a
 | .v (.c _ _) _ _=>False
 | .q _ _ _ _=>False
 | .w _ _ _=>False
 | .ag _ _=>False
 | .bp _ _ _=>False
 | x=>q x a
def Fq(st:St):List AV→AT→(List AV→AT→Prop)→Prop
 | [],a,q=>q [] a
 | x::xs,a,q=>yv E st x a fun y a=>Fq st xs a fun ys a=>q (y::ys) a
def Fs(st:St)(z:RV)(a:AT)(q:AV→AT→Prop):Prop:=
 match z with
 | .t n=>yv E st (af st.fr n) a q
 | .c n sz=>match af st.fr n with
  | .p k off=>k.dp=E.dp∧(match aq st.bx k.d with
   | some cs=>match pick sz off cs with
    | some (.a ds)=>Fq E st ds a fun ds a=>q (.a ds) a
    | some y=>yv E st y a q
    | none=>False
   | none=>False)
  | _=>False
def Hy(st:St):List RV→AT→(List AV→Prop)→Prop
 | [],_,q=>q []
 | z::zs,a,q=>Fs E st z a fun y a=>Hy st zs a fun ys=>q (y::ys)
noncomputable def Ch(fn:a8)(ys:List AV)(hp:HP)(a:AT)(q:List AV→HP→Prop):Prop:=
 cW G Ω E fn.code ⟨iq 0 ys,[],hp⟩ a fun e st _=>match e with
  | .ex _=>False
  | _=>match fn.res with
   | [.t n]=>match af st.fr n with
    | .p k 0=>k.dp=E.dp∧(match aq st.bx k.d with
     | some cs=>(cs.all nR)=true∧q cs st.hp
     | none=>False)
    | _=>False
   | _=>False
noncomputable def Ft(fn:a8)(ys:List AV)(hp:HP)(a:AT)(q:AV→HP→Prop):Prop:=
 cW G Ω E fn.code ⟨iq 0 ys,[],hp⟩ a fun e st a=>match e with
  | .ex _=>False
  | _=>Hy E st fn.res a fun xs=>eu (AV.aO xs) (q (Ed xs) st.hp)
end
section
variable {G:kY}{Ω:bL}{E:Env}
theorem Jo{st:St}{g:cV}{a:AT}{q:KS}(h:gW G Ω E st g a q):∃ st' r,eL (call G Ω) Ω E st g=some st'∧q st' r:=by
 unfold gW at h
 split at h
 ·rename_i hg
  obtain ⟨x,st',r,h1,h2⟩:=Cg h
  exact ⟨_,r,by simp only [eL,hg,h1,Option.bind_some],h2⟩
 ·rename_i j want hg
  split at h
  ·rename_i x hx
   obtain ⟨y,r,rfl,h⟩:=py h
   split at h
   ·rename_i hy
    obtain ⟨x',st',r,h1,h2⟩:=Cg h
    exact ⟨_,r,by simp only [eL,hg,hx,uW,Option.bind_some,hy,if_true,h1],h2⟩
   ·rename_i hy
    exact ⟨_,r,by simp only [eL,hg,hx,uW,Option.bind_some,hy,Bool.false_eq_true,if_false],h⟩
  ·rename_i hx
   exact ⟨_,a,by simp only [eL,hg,hx,uW,Option.bind_some,Bool.false_eq_true,if_false],h⟩
  ·exact h.elim
theorem Ci{st:St}{p:aY}{a:AT}{q:KS}(h:Fm G Ω E st p a q):∃ P r,fX (call G Ω) Ω E p (view p st)=some P∧q (P.app st) r:=by
 obtain ⟨h0,h⟩:=bz h
 obtain ⟨h1,h⟩:=DP h
 obtain ⟨x,st',r,h2,h3,h4⟩:=Cg h
 exact ⟨_,r,by simp only [fX,h0,h1,Bool.and_self,if_true,h2,Option.bind_some,h3],h4⟩
theorem Qv{st:St}{p:aY}{a:AT}{q:KS}(h:dW G Ω E st p a q):∃ st' r,bT (call G Ω) Ω E st p=some st'∧q st' r:=by
 unfold dW at h
 split at h
 ·rename_i hlt
  split at h
  ·rename_i hg
   obtain ⟨P,r,h1,h2⟩:=Ci h
   exact ⟨_,r,by simp only [bT,hlt,if_true,bS,hg,h1,Option.bind_some],h2⟩
  ·rename_i j want hg
   split at h
   ·rename_i x hx
    obtain ⟨y,r,rfl,h⟩:=py h
    split at h
    ·rename_i hy
     obtain ⟨P,r,h1,h2⟩:=Ci h
     exact ⟨_,r,by simp only [bT,hlt,if_true,bS,hg,hx,uW,hy,h1,Option.bind_some],h2⟩
    ·rename_i hy
     exact ⟨_,r,by simp only [bT,hlt,if_true,bS,hg,hx,uW,hy,Option.bind_some,Bool.false_eq_true,if_false],h⟩
   ·rename_i hx
    exact ⟨_,a,by simp only [bT,hlt,if_true,bS,hg,hx,uW,Option.bind_some,Bool.false_eq_true,if_false],h⟩
   ·exact h.elim
 ·rename_i hlt
  obtain ⟨st',r,h1,h2⟩:=Jo h
  exact ⟨st',r,by simp only [bT,hlt,Bool.false_eq_true,if_false,h1],h2⟩
theorem zH{kf kb:List Nat} : ∀ {gs:List cV}{st:St}{a:AT}{q:KS},u7 G Ω E kf kb st gs a q→∃ st' r,jF G Ω E kf kb gs st=some st'∧q st' r
 | [],st,a,q,h=>⟨_,a,rfl,h⟩
 | g::gs,st,a,q,h=>by
  have key:∀ a',(gW G Ω E st g a' fun st a=>u7 G Ω E kf kb st gs a q)→∃ st' r,jF G Ω E kf kb (g::gs) st=some st'∧q st' r:=by
   intro a' h
   obtain ⟨st1,r1,h1,h2⟩:=Jo h
   obtain ⟨st2,r2,h3,h4⟩:=zH h2
   exact ⟨st2,r2,by simp only [jF,iv,h1,Option.bind_some];exact h3,h4⟩
  unfold u7 at h
  split at h
  ·split at h
   ·obtain ⟨b,h⟩:=dm h
    split at h
    ·exact ⟨_,_,h.1,h.2⟩
    ·exact h.elim
   ·exact key _ h
  ·exact key _ h
theorem zI{kf kb:List Nat} : ∀ {gs:List aY}{st:St}{a:AT}{q:KS},u9 G Ω E kf kb st gs a q→∃ st' r,tS G Ω E kf kb gs st=some st'∧q st' r
 | [],st,a,q,h=>⟨_,a,rfl,h⟩
 | g::gs,st,a,q,h=>by
  have key:∀ a',(dW G Ω E st g a' fun st a=>u9 G Ω E kf kb st gs a q)→∃ st' r,tS G Ω E kf kb (g::gs) st=some st'∧q st' r:=by
   intro a' h
   obtain ⟨st1,r1,h1,h2⟩:=Qv h
   obtain ⟨st2,r2,h3,h4⟩:=zI h2
   exact ⟨st2,r2,by simp only [tS,im,h1,Option.bind_some];exact h3,h4⟩
  unfold u9 at h
  split at h
  ·split at h
   ·obtain ⟨b,h⟩:=dm h
    split at h
    ·exact ⟨_,_,h.1,h.2⟩
    ·exact h.elim
   ·exact key _ h
  ·exact key _ h
theorem Hz{st:St}{p:qJ}{a:AT}{q:KS}(h:qi E st p a q):∃ st' r,dJ E st p=some st'∧q st' r:=by
 cases p with
 | own d t=>
  simp only [qi] at h
  split at h
  ·rename_i hx;exact ⟨_,a,by simp only [dJ,hx],h⟩
  ·rename_i hx;exact ⟨_,a,by simp only [dJ,hx],h⟩
  ·exact h.elim
 | fz d=>
  simp only [qi] at h
  split at h
  ·rename_i hx;exact ⟨_,a,by simp only [dJ,hx],h⟩
  ·exact h.elim
 | ownC d off t=>
  simp only [qi] at h
  split at h
  ·rename_i k o hx
   obtain ⟨hro,h⟩:=h
   obtain ⟨cs,r,h1,h2⟩:=qC h
   split at h2
   ·rename_i hc
    obtain ⟨r',h3⟩:=lS h2
    exact ⟨_,r',by simp only [dJ,hx,oM hro,if_true,h1,Option.bind_some,hc],h3⟩
   ·rename_i hc
    exact ⟨_,r,by simp only [dJ,hx,oM hro,if_true,h1,Option.bind_some,hc],h2⟩
   ·exact h2.elim
  ·exact h.elim
 | fzC d off=>
  simp only [qi] at h
  split at h
  ·rename_i k o hx
   obtain ⟨hro,h⟩:=h
   obtain ⟨cs,r,h1,h2⟩:=qC h
   split at h2
   ·rename_i t es hc
    obtain ⟨r',h3⟩:=lS h2
    exact ⟨_,r',by simp only [dJ,hx,oM hro,if_true,h1,Option.bind_some,hc],h3⟩
   ·exact h2.elim
  ·exact h.elim
 | fzB d agg=>
  simp only [qi] at h
  split at h
  ·rename_i k hx
   obtain ⟨h1,h⟩:=h
   split at h
   ·rename_i cs hb
    obtain ⟨h2,h⟩:=bz h
    split at h
    ·exact ⟨_,a,by simp only [dJ,hx,if_pos h1,hb,Option.bind_some,if_pos h2,if_true],h⟩
    ·split at h
     ·exact ⟨_,a,by simp only [dJ,hx,if_pos h1,hb,Option.bind_some,if_pos h2,Bool.false_eq_true,if_false],h⟩
     ·exact h.elim
   ·exact h.elim
  ·exact h.elim
 | vM d off nd sz=>
  simp only [qi] at h
  split at h
  ·rename_i st' h1;exact ⟨st',a,h1,h⟩
  ·exact h.elim
 | unp d off=>
  simp only [qi] at h
  split at h
  ·rename_i st' h1;exact ⟨st',a,h1,h⟩
  ·exact h.elim
theorem zJ:∀ {ps:List qJ}{st:St}{a:AT}{q:KS},Fp E st ps a q→∃ st' r,pa E st ps=some st'∧q st' r
 | [],st,a,q,h=>⟨st,a,rfl,h⟩
 | p::ps,st,a,q,h=>by
  obtain ⟨st1,r1,h1,h2⟩:=Hz h
  obtain ⟨st2,r2,h3,h4⟩:=zJ h2
  exact ⟨st2,r2,by simp only [pa,h1,Option.bind_some,h3],h4⟩
theorem pb:∀ (c:AC){st:St}{a:AT}{q:KX},cW G Ω E c st a q→∃ e st' r,run G Ω E c st=some (e,st')∧q e st' r
 | .sk,st,a,q,h=>⟨_,_,a,db E st,by simpa only [cW] using h⟩
 | .rg pre ops kf kb,st,a,q,h=>by
  simp only [cW] at h
  obtain ⟨st1,r1,h1,h2⟩:=zJ h
  obtain ⟨st2,r2,h3,h4⟩:=zH h2
  obtain ⟨st3,h5,rfl⟩:=Option.map_eq_some_iff.1 h3
  exact ⟨_,_,r2,by rw [ym,h1,Option.bind_some,h5];rfl,h4⟩
 | .dg pre mks ops kf kb,st,a,q,h=>by
  simp only [cW] at h
  obtain ⟨st1,r1,h1,h0,h2⟩:=zJ h
  obtain ⟨st2,r2,h3,h4⟩:=zI h2
  obtain ⟨st3,h5,rfl⟩:=Option.map_eq_some_iff.1 h3
  exact ⟨_,_,r2,by rw [Cc,h1,Option.bind_some,if_pos h0,h5];rfl,h4⟩
 | .sq x y,st,a,q,h=>by
  simp only [cW] at h
  obtain ⟨e,st1,r1,h1,h2⟩:=pb x h
  cases e with
  | nrm=>
   obtain ⟨e,st2,r2,h3,h4⟩:=pb y h2
   exact ⟨e,st2,r2,by rw [px,h1];exact h3,h4⟩
  | ex id=>exact ⟨_,_,r1,by rw [px,h1];rfl,h2⟩
  | ret=>exact ⟨_,_,r1,by rw [px,h1];rfl,h2⟩
 | .ite c x y,st,a,q,h=>by
  simp only [cW] at h
  split at h
  ·rename_i z hc
   obtain ⟨w,r,rfl,h⟩:=py h
   cases z with
   | true=>
    obtain ⟨e,st1,r1,h1,h2⟩:=pb x h
    exact ⟨e,st1,r1,by rw [run_ite,hc];exact h1,h2⟩
   | false=>
    obtain ⟨e,st1,r1,h1,h2⟩:=pb y h
    exact ⟨e,st1,r1,by rw [run_ite,hc];exact h1,h2⟩
  ·exact h.elim
 | .bl id x,st,a,q,h=>by
  simp only [cW] at h
  obtain ⟨e,st1,r1,h1,h2⟩:=pb x h
  cases e with
  | nrm=>exact ⟨_,_,r1,by rw [oc,h1];rfl,h2⟩
  | ret=>exact ⟨_,_,r1,by rw [oc,h1];rfl,h2⟩
  | ex id'=>
   simp only at h2
   split at h2
   ·rename_i hi
    exact ⟨_,_,r1,by rw [oc,h1];simp only [Option.bind_some,inBlock,hi,if_true],h2⟩
   ·rename_i hi
    exact ⟨_,_,r1,by rw [oc,h1];simp only [Option.bind_some,inBlock,hi,if_false],h2⟩
 | .lp x,st,a,q,h=>by
  cases x with
  | kp kf kb x=>
   simp only [cW] at h
   obtain ⟨e,st1,r1,h1,h2⟩:=zF h
   refine ⟨e,st1,r1,?_,h2⟩
   exact (iw G Ω E ⟨kf,kb,x⟩ st).trans h1
  | _=>
   simp only [cW] at h
   obtain ⟨e,st1,r1,h1,h2⟩:=zF h
   exact ⟨e,st1,r1,h1,h2⟩
 | .ex id,st,a,q,h=>⟨_,_,a,gK E st id,by simpa only [cW] using h⟩
 | .ru g x y b,st,a,q,h=>by
  simp only [cW] at h
  obtain ⟨e,st1,r1,h1,h2⟩:=zF h
  exact ⟨e,st1,r1,h1,h2⟩
 | .rt,st,a,q,h=>⟨_,_,a,jR E st,by simpa only [cW] using h⟩
 | .kp kf kb x,st,a,q,h=>by
  unfold cW at h
  split at h
  ·obtain ⟨b,h⟩:=dm h
   split at h
   ·exact ⟨_,_,_,by rw [iG];exact h.1,h.2⟩
   ·exact h.elim
  ·obtain ⟨e,st1,r1,h1,h2⟩:=pb x h
   exact ⟨e,st1,r1,by rw [iG];exact h1,h2⟩
theorem xk{st:St}{x:AV}{a:AT}{q:AV→AT→Prop}(h:yv E st x a q):∃ y r,st.jD E.dp x=some y∧q y r:=by
 unfold yv at h
 split at h
 ·exact ⟨_,a,rfl,h⟩
 ·obtain ⟨t,es,r,h1,h2⟩:=dZ h
  exact ⟨_,r,by simp only [St.jD,h1,Option.bind_some],h2⟩
 ·obtain ⟨h0,h⟩:=h
  obtain ⟨t,es,r,h1,h2⟩:=dZ h
  exact ⟨_,r,by simp only [St.jD,if_pos h0,h1,Option.bind_some],h2⟩
 ·obtain ⟨t,es,r,h1,h2⟩:=dZ h
  obtain ⟨es',r,h3,rfl,h5⟩:=iH h2
  exact ⟨_,r,by simp only [St.jD,h1,Option.bind_some,if_pos h3],h5⟩
 ·exact h.elim
 ·exact h.elim
 ·exact h.elim
 ·exact h.elim
 ·exact h.elim
 ·rename_i h1 h2 h3 h4 h5 h6 h7 h8 h9
  refine ⟨x,a,?_,h⟩
  unfold St.jD
  split
  ·exact (h1 _ _ rfl).elim
  ·exact (h2 _ rfl).elim
  ·exact (h3 _ _ rfl).elim
  ·exact (h4 _ _ _ rfl).elim
  ·exact (h7 _ _ _ rfl).elim
  ·exact (h8 _ _ rfl).elim
  ·exact (h9 _ _ _ rfl).elim
  ·rfl
theorem Cj{st:St} : ∀ {xs:List AV}{a:AT}{q:List AV→AT→Prop},Fq E st xs a q→∃ ys r,st.zD E.dp xs=some ys∧q ys r
 | [],a,q,h=>⟨[],a,rfl,h⟩
 | x::xs,a,q,h=>by
  obtain ⟨y,r,h1,h2⟩:=xk h
  obtain ⟨ys,r2,h3,h4⟩:=Cj h2
  exact ⟨_,r2,by simp only [St.zD,h1,h3,Option.bind_some],h4⟩
theorem HA{st:St}{z:RV}{a:AT}{q:AV→AT→Prop}(h:Fs E st z a q):∃ y r,st.sE E z=some y∧q y r:=by
 cases z with
 | t n=>exact xk h
 | c n sz=>
  simp only [Fs] at h
  split at h
  ·rename_i k off hx
   obtain ⟨h0,h⟩:=h
   split at h
   ·rename_i cs hb
    split at h
    ·rename_i ds hp
     obtain ⟨ys,r,h1,h2⟩:=Cj h
     exact ⟨_,r,by simp only [St.sE,hx,if_pos h0,hb,hp,h1,Option.bind_some],h2⟩
    ·rename_i y hy hp
     obtain ⟨z,r,h1,h2⟩:=xk h
     refine ⟨z,r,?_,h2⟩
     simp only [St.sE,hx,if_pos h0,hb,hp,Option.bind_some,h1]
    ·exact h.elim
   ·exact h.elim
  ·exact h.elim
theorem zK{st:St} : ∀ {zs:List RV}{a:AT}{q:List AV→Prop},Hy E st zs a q→∃ xs,st.mW E zs=some xs∧q xs
 | [],a,q,h=>⟨[],rfl,h⟩
 | z::zs,a,q,h=>by
  obtain ⟨y,r,h1,h2⟩:=HA h
  obtain ⟨ys,h3,h4⟩:=zK h2
  exact ⟨_,by simp only [St.mW,h1,h3,Option.bind_some],h4⟩
theorem HB{f:FuncId}{fn:a8}{ys:List AV}{hp:HP}{q:AV→HP→Prop}(hG:G f=some fn)(a:AT)(h:Ft G Ω E fn ys hp a q):∃ x hp',call G Ω E f ys hp=some (.ret x,hp')∧q x hp':=by
 obtain ⟨e,st,r,h1,h2⟩:=pb fn.code h
 cases e with
 | ex id=>exact h2.elim
 | nrm=>
  obtain ⟨xs,h3,h4⟩:=zK h2
  obtain ⟨h5,h6⟩:=bz h4
  exact ⟨_,_,by rw [nS,hG,Option.bind_some,h1];simp only [Option.bind_some,St.end_,St.result,h3,h5,if_true],h6⟩
 | ret=>
  obtain ⟨xs,h3,h4⟩:=zK h2
  obtain ⟨h5,h6⟩:=bz h4
  exact ⟨_,_,by rw [nS,hG,Option.bind_some,h1];simp only [Option.bind_some,St.end_,St.result,h3,h5,if_true],h6⟩
theorem Mg{st:St}{rs:List RV}{n:Nat}{k:Key}{cs:List AV}(h1:rs=[.t n])(h2:af st.fr n= .p k 0)(h3:k.dp=E.dp)(h4:aq st.bx k.d=some cs)(h5:cs.all nR=true):st.end_ E rs=some (.new cs):=by
 subst h1
 have hr:st.result E [.t n]=none:=by simp [St.result,St.mW,St.sE,h2,St.jD,AV.aO,AV.pure]
 simp only [St.end_,hr,St.nm,h2,if_pos h3,h4,Option.bind_some,h5,if_true,Option.map_some]
theorem Gh{f:FuncId}{fn:a8}{ys:List AV}{hp:HP}{q:List AV→HP→Prop}(hG:G f=some fn)(a:AT)(h:Ch G Ω E fn ys hp a q):∃ cs hp',call G Ω E f ys hp=some (.new cs,hp')∧q cs hp':=by
 obtain ⟨e,st,r,h1,h2⟩:=pb fn.code h
 have key:∀ {P:Prop},(match fn.res with
   | [.t n]=>match af st.fr n with
    | .p k 0=>k.dp=E.dp∧(match aq st.bx k.d with
     | some cs=>(cs.all nR)=true∧q cs st.hp
     | none=>False)
    | _=>False
   | _=>False)→(∀ cs,st.end_ E fn.res=some (.new cs)→q cs st.hp→P)→P:=by
  intro P h2 hP
  split at h2
  ·rename_i n hres
   split at h2
   ·rename_i k hk
    obtain ⟨h3,h4⟩:=h2
    split at h4
    ·rename_i cs hb
     exact hP cs (Mg hres hk h3 hb h4.1) h4.2
    ·exact h4.elim
   ·exact h2.elim
  ·exact h2.elim
 cases e with
 | ex id=>exact h2.elim
 | nrm=>exact key h2 fun cs h3 h4=>⟨cs,_,by rw [nS,hG,Option.bind_some,h1];simp only [Option.bind_some,h3],h4⟩
 | ret=>exact key h2 fun cs h3 h4=>⟨cs,_,by rw [nS,hG,Option.bind_some,h1];simp only [Option.bind_some,h3],h4⟩
theorem Mh{R:Type}{f:FuncId}{fn:a8}{ys:List AV}{hp:HP}{Y:R→aR×HP}{r:R}{T:Prop}(hG:G f=some fn)(a:AT)(h:T)(he:T=Ch G Ω E fn ys hp a fun y h=>(aR.new y,h)=Y r):call G Ω E f ys hp=some (Y r):=by
 obtain ⟨y,h',h1,h2⟩:=Gh hG a (he▸h)
 rw [←h2];exact h1
theorem Qw{R:Type}{f:FuncId}{fn:a8}{ys:List AV}{hp:HP}{Y:R→aR×HP}{r:R}{T:Prop}(hG:G f=some fn)(a:AT)(h:T)(he:T=Ft G Ω E fn ys hp a fun y h=>(aR.ret y,h)=Y r):call G Ω E f ys hp=some (Y r):=by
 obtain ⟨y,h',h1,h2⟩:=HB hG a (he▸h)
 rw [←h2];exact h1
theorem runT{R:Type}{c:AC}{st:St}{Y:R→aE×St}{r:R}{T:Prop}(a:AT)(h:T)(he:T=cW G Ω E c st a fun e s _=>(e,s)=Y r):run G Ω E c st=some (Y r):=by
 obtain ⟨e,s,_,h1,h2⟩:=pb c (he▸h)
 rw [←h2];exact h1
theorem Qx{R:Type}{kf kb:List Nat}{gs:List cV}{st:St}{Y:R→St}{r:R}{T:Prop}(a:AT)(h:T)(he:T=u7 G Ω E kf kb st gs a fun s _=>s=Y r):jF G Ω E kf kb gs st=some (Y r):=by
 obtain ⟨s,_,h1,h2⟩:=zH (he▸h)
 rw [←h2];exact h1
theorem Qy{R:Type}{kf kb:List Nat}{gs:List aY}{st:St}{Y:R→St}{r:R}{T:Prop}(a:AT)(h:T)(he:T=u9 G Ω E kf kb st gs a fun s _=>s=Y r):tS G Ω E kf kb gs st=some (Y r):=by
 obtain ⟨s,_,h1,h2⟩:=zI (he▸h)
 rw [←h2];exact h1
def Jp(kf kb:List Nat):aE→St→St⊕(aE×St)
 | .nrm,s=>.inl (s.aD kf kb)
 | e,s=>.inr (e,s)
theorem ai{a b:Prop}(x:a)(y:b):a∧b:=⟨x,y⟩
theorem tt:true=true:=rfl
theorem gf:(false==true)=false:=rfl
theorem ht:(true==false)=false:=rfl
theorem hf:(false==false)=true:=rfl
abbrev W(w:List AV)(n:Nat):AV:=w.getD n .u
abbrev bt(r:AT):AT:=.co (.b true) r
abbrev bf(r:AT):AT:=.co (.b false) r
abbrev ao(x:Sz)(r:AT):AT:=.co x r
theorem ff:false=false:=rfl
end
end Go.Proofs.Ytkkkkondjclcnaa.A
