/- Paths: what is told of a run (which way it goes, what an element is, what a call answers) gives what must be shown, and nothing else; all else is reckoned. -/
import Derived.Test.YtdpjofmmokaobaaGreatAbs3
import Derived.KernelRfl
set_option linter.unusedSectionVars false
set_option linter.unusedVariables false
set_option linter.unusedSimpArgs false
set_option linter.constructorNameAsVariable false
namespace Go.Proofs.YtdpjofmmokaobaaGreat.A
open Go
inductive YK where
 | b (x:Bool)
 | n (x:Nat)
 | i (x:Int)
 | v (x:AV)
 | l (es:List AV)
 | s (x:List UInt8)
 | h (hp:HP)
 | bx (bs:List (Nat×List AV))
 | lp (e:aQ) (st:St)
 | fr (e:aQ) (st:St)
 | jn (st:St)
inductive AT:Type 1 where
 | nil
 | no
 | co (x:YK) (r:AT)
 | or (a b:AT)
 | ex {α:Type} (f:α→AT)
 | jb (d:Option Nat) (n:Nat) (b:AT)
 | fb (b:AT)
def fU:AT→(AT→Prop)→Prop
 | .or a b,k=>fU a k∨fU b k
 | .ex f,k=>∃ x,fU (f x) k
 | .no,_=>False
 | a,k=>k a
theorem dZ{k:AT→Prop} : ∀ {a:AT},fU a k→∃ b,k b
 | .or a b,h=>by
  rw [fU] at h
  rcases h with h | h
  ·exact dZ h
  ·exact dZ h
 | .ex f,h=>by
  rw [fU] at h
  obtain ⟨x,h⟩:=h
  exact dZ h
 | .no,h=>h.elim
 | .nil,h=>⟨_,h⟩
 | .co _ _,h=>⟨_,h⟩
 | .jb _ _ _,h=>⟨_,h⟩
 | .fb _,h=>⟨_,h⟩
def Bu(a:AT)(k:Bool→AT→Prop):Prop:=fU a fun a=>match a with
 | .co (.b x) r=>k x r
 | _=>False
def RF(a:AT)(k:Nat→AT→Prop):Prop:=fU a fun a=>match a with
 | .co (.n x) r=>k x r
 | _=>False
def Ah(a:AT)(k:Int→AT→Prop):Prop:=fU a fun a=>match a with
 | .co (.i x) r=>k x r
 | _=>False
def E2(a:AT)(k:AV→AT→Prop):Prop:=fU a fun a=>match a with
 | .co (.v x) r=>k x r
 | _=>False
def tA(a:AT)(k:List AV→AT→Prop):Prop:=fU a fun a=>match a with
 | .co (.l x) r=>k x r
 | _=>False
def RG(a:AT)(k:List UInt8→AT→Prop):Prop:=fU a fun a=>match a with
 | .co (.s x) r=>k x r
 | _=>False
def DU(a:AT)(k:HP→AT→Prop):Prop:=fU a fun a=>match a with
 | .co (.h x) r=>k x r
 | _=>False
def LG(a:AT)(k:List (Nat×List AV)→AT→Prop):Prop:=fU a fun a=>match a with
 | .co (.bx x) r=>k x r
 | _=>False
def It(a:AT)(k:aQ→St→AT→Prop):Prop:=fU a fun a=>match a with
 | .co (.lp e st) r=>k e st r
 | _=>False
def fx(b:Bool)(p:Prop):Prop:=match b with
 | true=>p
 | false=>False
theorem rU{a:AT}{k:Bool→AT→Prop}(h:Bu a k):∃ x r,k x r:=by
 obtain ⟨b,h⟩:=dZ h
 split at h
 ·exact ⟨_,_,h⟩
 ·exact h.elim
theorem JI{a:AT}{k:Nat→AT→Prop}(h:RF a k):∃ x r,k x r:=by
 obtain ⟨b,h⟩:=dZ h
 split at h
 ·exact ⟨_,_,h⟩
 ·exact h.elim
theorem qv{a:AT}{k:Int→AT→Prop}(h:Ah a k):∃ x r,k x r:=by
 obtain ⟨b,h⟩:=dZ h
 split at h
 ·exact ⟨_,_,h⟩
 ·exact h.elim
theorem vX{a:AT}{k:AV→AT→Prop}(h:E2 a k):∃ x r,k x r:=by
 obtain ⟨b,h⟩:=dZ h
 split at h
 ·exact ⟨_,_,h⟩
 ·exact h.elim
theorem km{a:AT}{k:List AV→AT→Prop}(h:tA a k):∃ x r,k x r:=by
 obtain ⟨b,h⟩:=dZ h
 split at h
 ·exact ⟨_,_,h⟩
 ·exact h.elim
theorem JJ{a:AT}{k:List UInt8→AT→Prop}(h:RG a k):∃ x r,k x r:=by
 obtain ⟨b,h⟩:=dZ h
 split at h
 ·exact ⟨_,_,h⟩
 ·exact h.elim
theorem tB{a:AT}{k:HP→AT→Prop}(h:DU a k):∃ x r,k x r:=by
 obtain ⟨b,h⟩:=dZ h
 split at h
 ·exact ⟨_,_,h⟩
 ·exact h.elim
theorem Hr{a:AT}{k:List (Nat×List AV)→AT→Prop}(h:LG a k):∃ x r,k x r:=by
 obtain ⟨b,h⟩:=dZ h
 split at h
 ·exact ⟨_,_,h⟩
 ·exact h.elim
theorem CI{a:AT}{k:aQ→St→AT→Prop}(h:It a k):∃ e st r,k e st r:=by
 obtain ⟨b,h⟩:=dZ h
 split at h
 ·exact ⟨_,_,_,h⟩
 ·exact h.elim
theorem cj{b:Bool}{p:Prop}(h:fx b p):b=true∧p:=by
 cases b with
 | true=>exact ⟨rfl,h⟩
 | false=>exact h.elim
def E3(x:AV)(a:AT)(k:Nat→AT→Prop):Prop:=match x with
 | .i _ n=>RF a fun j r=>n=(j:Int)∧k j r
 | _=>False
theorem CJ{x:AV}{a:AT}{k:Nat→AT→Prop}(h:E3 x a k):∃ j r,py x=some j∧k j r:=by
 unfold E3 at h;split at h
 ·obtain ⟨j,r,h1,h2⟩:=JI h
  subst h1
  exact ⟨j,r,by simp [py],h2⟩
 ·exact h.elim
def Au(E:Env)(st:St)(k:Key)(a:AT)(q:List AV→AT→Prop):Prop:=
 Bu a fun own r=>match own with
  | true=>k.dp=E.dp∧(match ay st.bx k.d with
   | some cs=>q cs r
   | none=>False)
  | false=>tA r fun cs r=>k.dp≠E.dp∧st.hp k=some cs∧q cs r
theorem tc{E:Env}{st:St}{k:Key}{a:AT}{q:List AV→AT→Prop}(h:Au E st k a q):∃ cs r,st.box E.dp k=some cs∧q cs r:=by
 obtain ⟨own,r,h⟩:=rU h
 cases own with
 | true=>
  obtain ⟨h1,h2⟩:=h
  split at h2
  ·rename_i cs hb
   exact ⟨cs,r,by simp only [St.box,if_pos h1,hb],h2⟩
  ·exact h2.elim
 | false=>
  obtain ⟨cs,r,h1,h2,h3⟩:=km h
  exact ⟨cs,r,by simp only [St.box,if_neg h1,h2],h3⟩
def q6(E:Env)(st:St)(k:Key)(cs:List AV)(a:AT)(q:St→AT→Prop):Prop:=
 Bu a fun own r=>match own with
  | true=>k.dp=E.dp∧q {st with bx:=iG st.bx k.d cs} r
  | false=>DU r fun hp r=>k.dp≠E.dp∧ad st.hp k cs=hp∧q {st with hp:=hp} r
theorem nS{E:Env}{st:St}{k:Key}{cs:List AV}{a:AT}{q:St→AT→Prop}(h:q6 E st k cs a q):∃ r,q (st.aM E.dp k cs) r:=by
 obtain ⟨own,r,h⟩:=rU h
 cases own with
 | true=>
  obtain ⟨h1,h2⟩:=h
  exact ⟨r,by simp only [St.aM,if_pos h1];exact h2⟩
 | false=>
  obtain ⟨hp,r,h1,h2,h3⟩:=tB h
  subst h2
  exact ⟨r,by simp only [St.aM,if_neg h1];exact h3⟩
def lI(E:Env)(st:St)(pl:Pl)(a:AT)(q:TypeId→List AV→AT→Prop):Prop:=
 match pl with
 | .s d=>match ax st.fr d with
  | .o t es=>q t es a
  | _=>False
 | .c k off=>Au E st k a fun cs r=>match cs[off]? with
  | some (.o t es)=>q t es r
  | _=>False
theorem fe{E:Env}{st:St}{pl:Pl}{a:AT}{q:TypeId→List AV→AT→Prop}(h:lI E st pl a q):∃ t es r,st.rowAt E.dp pl=some (t,es)∧q t es r:=by
 unfold lI at h
 split at h
 ·split at h
  ·rename_i t es hx
   exact ⟨t,es,a,by simp only [St.rowAt,hx],h⟩
  ·exact h.elim
 ·obtain ⟨cs,r,h1,h2⟩:=tc h
  split at h2
  ·rename_i t es hx
   exact ⟨t,es,r,by simp only [St.rowAt,h1,hx],h2⟩
  ·exact h2.elim
def yv(E:Env)(st:St)(x:AV)(pl:Pl)(a:AT)(q:St→AT→Prop):Prop:=
 match pl with
 | .s d=>q (st.bQ d x) a
 | .c k off=>Au E st k a fun cs r=>q6 E st k (cs.set off x) r q
theorem yw{E:Env}{st:St}{x:AV}{pl:Pl}{a:AT}{q:St→AT→Prop}(h:yv E st x pl a q):∃ st' r,st.putAt E.dp x pl=some st'∧q st' r:=by
 unfold yv at h
 split at h
 ·exact ⟨_,a,rfl,h⟩
 ·obtain ⟨cs,r,h1,h2⟩:=tc h
  obtain ⟨r',h3⟩:=nS h2
  exact ⟨_,r',by simp only [St.putAt,h1],h3⟩
def zC(sz:Nat)(es:List AV)(j:Nat)(a:AT)(q:AV→AT→Prop):Prop:=E2 a fun e r=>es[j]? =some e∧fx (e.nc==sz) (q e r)
theorem tC{sz:Nat}{es:List AV}{j:Nat}{a:AT}{q:AV→AT→Prop}(h:zC sz es j a q):∃ e r,es[j]? =some e∧e.nc=sz∧q e r:=by
 obtain ⟨e,r,h1,h2⟩:=vX h
 obtain ⟨h3,h4⟩:=cj h2
 exact ⟨e,r,h1,by simpa using h3,h4⟩
theorem q7{E:Env}(h:E.ro=false)(pl:Pl):pl.ft E=true:=by cases pl<;>simp [Pl.ft,h]
def Bv(E:Env)(st:St)(x:AV)(a:AT)(q:TypeId→List AV→AT→Prop):Prop:=
 match x with
 | .l t es=>q t es a
 | .n=>q 0 [] a
 | .o t es=>q t es a
 | .r pl=>lI E st pl a q
 | .v pl lo len=>lI E st pl a fun t es r=>tA r fun es' r=>lo+len≤es.length∧(es.drop lo).take len=es'∧q t es' r
 | _=>False
theorem DV{E:Env}{st:St}{x:AV}{a:AT}{q:TypeId→List AV→AT→Prop}(h:Bv E st x a q):∃ t es r,st.elems E.dp x=some (t,es)∧q t es r:=by
 unfold Bv at h
 split at h
 ·exact ⟨_,_,a,rfl,h⟩
 ·exact ⟨_,_,a,rfl,h⟩
 ·exact ⟨_,_,a,rfl,h⟩
 ·obtain ⟨t,es,r,h1,h2⟩:=fe h
  exact ⟨t,es,r,h1,h2⟩
 ·obtain ⟨t,es,r,h1,h2⟩:=fe h
  obtain ⟨es',r',h3,h4,h5⟩:=km h2
  subst h4
  exact ⟨t,_,r',by simp only [St.elems,h1,if_pos h3],h5⟩
 ·exact h.elim
def sP(E:Env)(st:St):List AV→AT→(List AV→List TypeId→AT→Prop)→Prop
 | [],a,q=>q [] [] a
 | x::xs,a,q=>(match x with
  | .o t es=>sP E st xs a fun ys ts r=>q (.l t es::ys) ([t]++ts) r
  | .r pl=>lI E st pl a fun t es r=>sP E st xs r fun ys ts r=>q (.l t es::ys) ([t]++ts) r
  | .v pl lo len=>lI E st pl a fun t es r=>tA r fun es' r=>lo+len≤es.length∧(es.drop lo).take len=es'∧sP E st xs r fun ys ts r=>q (.l t es'::ys) ([t]++ts) r
  | .w _ t x=>sP E st xs a fun ys ts r=>q (x::ys) ([t]++ts) r
  | x=>fx x.pure (sP E st xs a fun ys ts r=>q (x::ys) ([]++ts) r))
theorem pS{E:Env}{st:St} : ∀ {xs:List AV}{a:AT}{q:List AV→List TypeId→AT→Prop},sP E st xs a q→∃ ys ts r,st.eo E.dp xs=some (ys,ts)∧q ys ts r
 | [],a,q,h=>⟨[],[],a,rfl,h⟩
 | x::xs,a,q,h=>by
  unfold sP at h
  split at h
  ·obtain ⟨ys,ts,r,h1,h2⟩:=pS h
   exact ⟨_,_,r,by simp [St.eo,St.kQ,h1],h2⟩
  ·obtain ⟨t,es,r,h1,h2⟩:=fe h
   obtain ⟨ys,ts,r,h3,h4⟩:=pS h2
   exact ⟨_,_,r,by simp [St.eo,St.kQ,h1,h3],h4⟩
  ·obtain ⟨t,es,r,h1,h2⟩:=fe h
   obtain ⟨es',r,h3,h4,h5⟩:=km h2
   obtain ⟨ys,ts,r,h6,h7⟩:=pS h5
   subst h4
   exact ⟨_,_,r,by simp [St.eo,St.kQ,h1,h3,h6],h7⟩
  ·obtain ⟨ys,ts,r,h1,h2⟩:=pS h
   exact ⟨_,_,r,by simp [St.eo,St.kQ,h1],h2⟩
  ·rename_i h1 h2 h3 hw
   obtain ⟨h4,h5⟩:=cj h
   obtain ⟨ys,ts,r,h6,h7⟩:=pS h5
   refine ⟨_,_,r,?_,h7⟩
   have:st.kQ E.dp x=some (x,[]):=by
    unfold St.kQ
    split
    ·exact (h1 _ _ rfl).elim
    ·exact (h2 _ rfl).elim
    ·exact (h3 _ _ _ rfl).elim
    ·exact (hw _ _ _ rfl).elim
    ·simp [AV.pure] at h4
    ·rw [if_pos h4]
   simp [St.eo,this,h6]
abbrev KW:=AV→St→AT→Prop
section
variable (G:mY)(Ω:cD)(E:Env)(st:St)(d:Option Nat)
def RH(sz:Nat)(arr:Option Nat)(x:AV)(xo:a8)(j:Nat)(a:AT)(k:KW):Prop:=
 match arr with
 | some len=>j<len∧(match x with
  | .p kk o=>k (.p kk (o+j*sz)) st a
  | .e y o=>k (.e y (o+j*sz)) st a
  | _=>False)
 | none=>match x with
  | .l _ es=>zC sz es j a fun e r=>k (.e e 0) st r
  | .o _ es=>match xo with
   | .t m=>zC sz es j a fun _ r=>k (.q (.s m) j sz 0) st r
   | .c _=>False
  | .r pl=>lI E st pl a fun _ es r=>zC sz es j r fun _ r=>k (.q pl j sz 0) st r
  | .v pl lo len=>lI E st pl a fun _ es r=>j<len∧lo+len≤es.length∧(zC sz es (lo+j) r fun _ r=>k (.q pl (lo+j) sz 0) st r)
  | _=>False
def LH(E:Env)(k:Key):Prop:=match E.ro with
 | false=>false=false
 | true=>k.dp=E.dp
theorem Iu{E:Env}{k:Key}(h:LH E k)(off:Nat):(Pl.c k off).ft E=true:=by
 unfold LH at h
 cases hr:E.ro with
 | false=>exact q7 hr _
 | true=>rw [hr] at h;simp [Pl.ft,h]
def RI(op:BinOp)(bl:Bool)(x y:AV)(a:AT)(k:KW):Prop:=
 match x,y with
 | .i ki m,.i ki' n=>if ki=ki' then
   match op with
   | .add=>Ah a fun r a=>ki.wrap (m+n)=r∧k (.i ki r) st a
   | .sub=>Ah a fun r a=>ki.wrap (m - n)=r∧k (.i ki r) st a
   | .mul=>Ah a fun r a=>ki.wrap (m*n)=r∧k (.i ki r) st a
   | .quo=>Ah a fun r a=>n≠0∧ki.wrap (m.tdiv n)=r∧k (.i ki r) st a
   | .rem=>Ah a fun r a=>n≠0∧m.tmod n=r∧k (.i ki r) st a
   | .or=>Ah a fun r a=>(if n>m then n else m)=r∧k (.i ki r) st a
   | .eql=>k (.b (m==n)) st a
   | .neq=>k (.b (m !=n)) st a
   | .lss=>k (.b (decide (m<n))) st a
   | .leq=>k (.b (decide (m≤n))) st a
   | .gtr=>k (.b (decide (n<m))) st a
   | .geq=>k (.b (decide (n≤m))) st a
   | _=>False
  else False
 | .b m,.b n=>match bl,op with
  | true,.eql=>k (.b (m==n)) st a
  | true,.neq=>k (.b (!(m==n))) st a
  | _,_=>False
 | .s m,.s n=>match op with
  | .add=>RG a fun r a=>m.length+n.length≤4611686018427387904∧m++n=r∧k (.s r) st a
  | .eql=>k (.b (m==n)) st a
  | .neq=>k (.b (!(m==n))) st a
  | _=>False
 | _,_=>False
def RJ(n:Option Nat)(x:AV)(a:AT)(k:KW):Prop:=
 match x with
 | .p kk off=>Au E st kk a fun cs a=>match pick n off cs with
  | some (.o _ _)=>k (.r (.c kk off)) st a
  | some y=>fx y.copy (k y st a)
  | none=>False
 | .e x off=>match pick n off x.cl with
  | some y=>k y st a
  | none=>False
 | .q pl i sz off=>lI E st pl a fun _ es a=>zC sz es i a fun e a=>match pick n off e.cl with
  | some y=>k y st a
  | none=>False
 | _=>False
def RK(n:Nat)(x y:AV)(yo:a8)(a:AT)(k:KW):Prop:=
 match x with
 | .p kk off=>LH E kk∧(Au E st kk a fun cs a=>match y with
  | .o t es=>match yo with
   | .t m=>fx (n==1&&decide (off<cs.length)) (q6 E ((st.bQ m .u).a6 (.c kk off)) kk (cs.set off (.o t es)) a fun st' a=>k .u st' a)
   | .c _=>False
  | .v pl lo len=>pl= .c kk off∧fx (lo==0&&n==1) (lI E st pl a fun t es a=>tA a fun es' a=>len≤es.length∧es.take len=es'∧(q6 E (st.a6 (.c kk off)) kk (cs.set off (.o t es')) a fun st' a=>k .u st' a))
  | y=>y.deep kk.dp=true∧fx (y.copy&&y.nc==n&&y.cl.all AV.one&&decide (off+n≤cs.length)) (q6 E st kk (putCells cs off y.cl) a fun st' a=>k .u st' a))
 | .q pl i sz off=>E.ro=false∧(lI E st pl a fun t es a=>E2 a fun e a=>es[i]? =some e∧fx (e.nc==sz&&y.pure&&y.nc==n&&y.cl.all AV.one&&decide (off+n≤sz)) (tA a fun es' a=>es.set i (wU e off y.cl)=es'∧(yv E st (.o t es') pl a fun st' a=>k .u st' a)))
 | _=>False
def Av(x:Option AV)(dflt:Nat)(a:AT)(k:Nat→AT→Prop):Prop:=
 match x with
 | none=>k dflt a
 | some y=>E3 y a k
def RL(t sz:Nat)(x:AV)(lo hi:Option AV)(a:AT)(k:KW):Prop:=
 match x with
 | .s l=>Av lo 0 a fun i a=>Av hi l.length a fun j a=>RG a fun r a=>t=0∧i≤j∧j≤l.length∧(l.take j).drop i=r∧k (.s r) st a
 | .l t' es=>Av lo 0 a fun i a=>Av hi es.length a fun j a=>tA a fun r a=>t≠0∧es.all (fun e=>e.nc==sz)=true∧i≤j∧j≤es.length∧(es.take j).drop i=r∧k (.l t' r) st a
 | .r pl=>lI E st pl a fun t' es a=>Av lo 0 a fun i a=>Av hi es.length a fun j a=>RF a fun m a=>fx (t !=0&&t'==t) (i≤j∧j≤es.length∧j - i=m∧k (.v pl i m) st a)
 | _=>False
def Aw(t:TypeId)(x:a8)(a:AT)(k:List AV→St→AT→Prop):Prop:=
 match x with
 | .c .n=>k [] st a
 | .c _=>False
 | .t m=>match ax st.fr m with
  | .n=>k [] st a
  | .o t' es=>fx (t'==t) (k es (st.bQ m .u) a)
  | .r pl=>E.ro=false∧(lI E st pl a fun t' es a=>fx (t'==t) (yv E st .u pl a fun st' a=>k es st' a))
  | .v pl lo len=>E.ro=false∧fx (lo==0) (lI E st pl a fun t' es a=>tA a fun es' a=>len≤es.length∧t'=t∧es.take len=es'∧(yv E st .u pl a fun st' a=>k es' st' a))
  | _=>False
noncomputable def JK(m:Nat)(f:FuncId)(args:List AV)(a:AT)(k:KW):Prop:=
 match m with
 | 0=>sP E st args a fun ys ts a=>E2 a fun x a=>call G Ω ⟨0,false⟩ f ys (fun _=>none)=some (.ret x,fun _=>none)∧(match ts with
  | []=>fx x.pure (k x st a)
  | ts=>x.pure=true∧x.off ts=true∧k x st a)
 | 1=>sP E st args a fun ys ts a=>E2 a fun x a=>Ω f ys=some x∧(match ts with
  | []=>fx x.pure (k x st a)
  | ts=>x.pure=true∧x.off ts=true∧k x st a)
 | _=>False
noncomputable def M4(f:FuncId)(args:List AV)(a:AT)(k:KW):Prop:=
 match args.all AV.EL with
 | true=>JK G Ω E st 0 f args a k
 | false=>E.ro=false∧(st.bx.all fun y=>AV.bz E.dp y.2)=true∧fx (args.all AV.copy) (E2 a fun x a=>DU a fun h2 a=>LG a fun bx a=>DU a fun h3 a=>
  call G Ω ⟨E.dp+1,false⟩ f args (fun kk=>st.box E.dp kk)=some (.ret x,h2)∧iH E.dp h2 st.bx=bx∧(fun kk:Key=>if kk.dp<E.dp then h2 kk else none)=h3∧
  k x ⟨st.fr.map fun y=>(y.1,if mZ y.2=true then .u else y.2),bx,h3⟩ a)
noncomputable def YL(f:FuncId)(args:List AV)(a:AT)(k:KW):Prop:=
 (st.bx.all fun y=>AV.bz E.dp y.2)=true∧fx (args.all AV.copy) (E2 a fun x a=>DU a fun h2 a=>call G Ω ⟨E.dp+1,true⟩ f args (fun kk=>st.box E.dp kk)=some (.ret x,h2)∧fx x.pure (k x st a))
noncomputable def cnW(dd:Nat)(f:FuncId)(args:List AV)(a:AT)(k:KW):Prop:=
 E.ro=false∧(st.bx.all fun y=>AV.bz E.dp y.2)=true∧fx (args.all AV.copy) (tA a fun cs a=>DU a fun h2 a=>LG a fun bx a=>DU a fun h3 a=>
  call G Ω ⟨E.dp+1,false⟩ f args (fun kk=>st.box E.dp kk)=some (.new cs,h2)∧iH E.dp h2 st.bx=bx∧(fun kk:Key=>if kk.dp<E.dp then h2 kk else none)=h3∧
  px E.dp ⟨st.fr.map fun y=>(y.1,if mZ y.2=true then .u else y.2),bx,h3⟩ dd=true∧
  k (.p ⟨E.dp,dd⟩ 0) ⟨st.fr.map fun y=>(y.1,if mZ y.2=true then .u else y.2),(dd,cs)::bx,h3⟩ a)
noncomputable def ckW(dd:Nat)(f:FuncId)(args:List AV)(a:AT)(k:KW):Prop:=
 fx (AV.bK args) (tA a fun cs a=>DU a fun h2 a=>call G Ω ⟨E.dp+1,false⟩ f args (fun _=>none)=some (.new cs,h2)∧(cs.all p7&&px E.dp st dd)=true∧k (.p ⟨E.dp,dd⟩ 0) {st with bx:=(dd,cs)::st.bx} a)
noncomputable def lS(a:AT)(o:mr)(k:KW):Prop:=
 match o with
 | .mv x=>match st.ev x with
  | .o _ _=>match x with
   | .t n=>k (.r (.s n)) st a
   | .c _=>False
  | y=>k y st a
 | .as x=>match x with
  | .c y=>fx y.pure (k y st a)
  | .t n=>match ax st.fr n with
   | .o t es=>match d with
    | some d=>k (.o t es) ((st.bQ n .u).a6 (.s d)) a
    | none=>False
   | .v pl lo len=>match d with
    | some d=>Bu a fun own a=>match own with
     | true=>pl= .s d∧fx (lo==0) (lI E st pl a fun t es a=>tA a fun es' a=>len≤es.length∧es.take len=es'∧k (.o t es') (st.a6 (.s d)) a)
     | false=>(pl= .s d→(lo==0)=false)∧k (.v pl lo len) st a
    | none=>False
   | y=>fx (y.copy||zz y) (k y st a)
 | .pk c x y=>match st.ev c with
  | .b z=>Bu a fun w a=>z=w∧(match w with
   | true=>fx (st.ev x).copy (k (st.ev x) st a)
   | false=>fx (st.ev y).copy (k (st.ev y) st a))
  | _=>False
 | .bx x=>match d with
  | some d=>((st.ev x).deep E.dp&&(st.fr.all (fun y=>y.2.aG ⟨E.dp,d⟩)&&st.bx.all (fun y=>AV.aI ⟨E.dp,d⟩ y.2)))=true∧
   fx ((st.ev x).copy&&(st.ev x).cl.all AV.one&&kN st.bx d) (k (.p ⟨E.dp,d⟩ 0) {st with bx:=(d,(st.ev x).cl)::st.bx} a)
  | none=>False
 | .al zs=>match d with
  | some d=>(st.fr.all (fun y=>y.2.aG ⟨E.dp,d⟩)&&st.bx.all (fun y=>AV.aI ⟨E.dp,d⟩ y.2))=true∧fx (kN st.bx d) (k (.p ⟨E.dp,d⟩ 0) {st with bx:=(d,zs)::st.bx} a)
  | none=>False
 | .ld n x=>RJ E st n (st.ev x) a k
 | .st n x y=>RK E st n (st.ev x) (st.ev y) y a k
 | .fa off x=>match st.ev x with
  | .p kk o=>k (.p kk (o+off)) st a
  | .e y o=>k (.e y (o+off)) st a
  | .q pl i sz o=>lI E st pl a fun _ es a=>i<es.length∧k (.q pl i sz (o+off)) st a
  | _=>False
 | .ia sz arr x i=>E3 (st.ev i) a fun j a=>RH E st sz arr (st.ev x) x j a k
 | .bo op bl x y=>RI st op bl (st.ev x) (st.ev y) a k
 | .no x=>match st.ev x with
  | .b y=>k (.b (!y)) st a
  | _=>False
 | .ae ks ng x y=>match st.ev x,st.ev y with
  | .a xs,.a ys=>Bu a fun r a=>gu ks xs ys=some r∧k (.b (if ng then !r else r)) st a
  | _,_=>False
 | .cv ki x=>match st.ev x with
  | .i _ n=>Ah a fun r a=>ki.wrap n=r∧k (.i ki r) st a
  | _=>False
 | .bs t sz es=>match d with
  | some d=>fx ((es.map st.ev).all fun y=>y.pure&&y.cl.all AV.one&&y.nc==sz) (tA a fun vs a=>es.map st.ev=vs∧k (.o t vs) (st.a6 (.s d)) a)
  | none=>False
 | .bd zs fs=>fx (fs.all fun f=>(st.ev f.2.2).copy&&(st.ev f.2.2).nc==f.2.1&&(st.ev f.2.2).cl.all AV.one&&decide (f.1+f.2.1≤zs.length))
   (k (.a (fs.foldl (fun cs f=>putCells cs f.1 (st.ev f.2.2).cl) zs)) st a)
 | .ms t _ by_ x n=>match d with
  | some d=>E3 (st.ev n) a fun n a=>tA a fun es a=>n*by_≤140737488355328∧n≤maxLen∧List.replicate n x=es∧k (.o t es) (st.a6 (.s d)) a
  | none=>False
 | .sl t sz x lo hi=>RL E st t sz (st.ev x) (lo.map st.ev) (hi.map st.ev) a k
 | .ex x i=>match st.ev x with
  | .tp vs=>match vs[i]? with
   | some y=>k y st a
   | none=>False
  | _=>False
 | .mf f caps=>fx (AV.qo (caps.map st.ev)) (k (.f f (caps.map st.ev)) st a)
 | .ca m f args=>JK G Ω E st m f (args.map st.ev) a k
 | .cf m x args=>match st.ev x with
  | .f f caps=>JK G Ω E st m f (args.map st.ev++caps) a k
  | _=>False
 | .c2 f args=>M4 G Ω E st f (args.map st.ev) a k
 | .d2 x args=>match st.ev x with
  | .f f caps=>M4 G Ω E st f (args.map st.ev++caps) a k
  | _=>False
 | .c3 f args=>YL G Ω E st f (args.map st.ev) a k
 | .cn f args=>match d with
  | some dd=>cnW G Ω E st dd f (args.map st.ev) a k
  | none=>False
 | .ck f args=>match d with
  | some dd=>ckW G Ω E st dd f (args.map st.ev) a k
  | none=>False
 | .cr t f args=>match d with
  | some dd=>fx (AV.bK (args.map st.ev)) (Ω f (args.map st.ev)=some (.o t [])∧k (.o t []) (st.a6 (.s dd)) a)
  | none=>False
 | .ln str x=>match st.ev x with
  | .s l=>fx str (Ah a fun n a=>(l.length:Int)=n∧k (.i .i64 n) st a)
  | y=>fx (!str) (Bv E st y a fun _ es a=>Ah a fun n a=>(es.length:Int)=n∧k (.i .i64 n) st a)
 | .ap t sz by_ x y=>match d with
  | some d=>Bv E st (st.ev y) a fun _ ys a=>Aw E st t x a fun es st' a=>tA a fun r a=>
    ys.all (fun e=>e.nc==sz)=true∧(es.length+ys.length)*by_≤140737488355328∧es.length+ys.length≤maxLen∧es++ys=r∧k (.o t r) (st'.a6 (.s d)) a
  | none=>False
 | .nc x=>match st.ev x with
  | .p kk o=>k (.p kk o) st a
  | .e y o=>k (.e y o) st a
  | .f g caps=>k (.f g caps) st a
  | _=>False
 | .ch _ _ _ _ _=>False
 | .bg zs fs=>fx (fs.all (Il st zs.length)) (k (.ag (fs.foldl (rS st) (zs,[])).1 (fs.foldl (rS st) (zs,[])).2) st a)
 | .bxg x=>match d with
  | some dd=>(match st.ev x with
   | .ag cs rs=>fx (cs.all (fun c=>c.copy||Hq c)&&AV.bz E.dp cs&&px E.dp st dd) (match u5 dd {st with bx:=(dd,cs)::st.bx} rs with
    | some st'=>k (.p ⟨E.dp,dd⟩ 0) st' a
    | none=>False)
   | _=>False)
  | none=>False
 | .lk _ _ _ _=>False
end
section
variable {G:mY}{Ω:cD}{E:Env}{st:St}{d:Option Nat}
def Told(o:mr)(k:KW)(G:mY)(Ω:cD)(E:Env)(st:St)(d:Option Nat):Prop:=∃ x st' r,execOp (call G Ω) Ω E st d o=some (x,st')∧k x st' r
theorem Told.mk{o:mr}{k:KW}{x:AV}{st':St}{r:AT}(h:execOp (call G Ω) Ω E st d o=some (x,st'))(hk:k x st' r):Told o k G Ω E st d:=⟨x,st',r,h,hk⟩
theorem u9{sz:Nat}{es:List AV}{j:Nat}{e:AV}{f:AV→AV}(h:es[j]? =some e)(hn:e.nc=sz):elemAt sz st es[j]? f=some (f e,st):=by
 rw [h];simp only [elemAt,Option.bind_some,hn,if_true]
theorem RM{op:BinOp}{bl:Bool}{x y:a8}{a:AT}{k:KW}(h:RI st op bl (st.ev x) (st.ev y) a k):Told (.bo op bl x y) k G Ω E st d:=by
 unfold RI at h
 split at h
 ·rename_i ki m ki' n hx hy
  split at h
  ·rename_i hki
   subst hki
   split at h
   ·obtain ⟨r,a',h1,h2⟩:=qv h
    exact .mk (by simp only [execOp,hx,hy,mX,if_true,pQ,h1,Option.bind_some]) h2
   ·obtain ⟨r,a',h1,h2⟩:=qv h
    exact .mk (by simp only [execOp,hx,hy,mX,if_true,pQ,h1,Option.bind_some]) h2
   ·obtain ⟨r,a',h1,h2⟩:=qv h
    exact .mk (by simp only [execOp,hx,hy,mX,if_true,pQ,h1,Option.bind_some]) h2
   ·obtain ⟨r,a',h0,h1,h2⟩:=qv h
    exact .mk (by simp only [execOp,hx,hy,mX,if_true,pQ,if_neg h0,h1,Option.bind_some]) h2
   ·obtain ⟨r,a',h0,h1,h2⟩:=qv h
    exact .mk (by simp only [execOp,hx,hy,mX,if_true,pQ,if_neg h0,h1,Option.bind_some]) h2
   ·obtain ⟨r,a',h1,h2⟩:=qv h
    exact .mk (by simp only [execOp,hx,hy,mX,if_true,pQ,h1,Option.bind_some]) h2
   ·exact .mk (by simp only [execOp,hx,hy,mX,if_true,pQ,Option.bind_some]) h
   ·exact .mk (by simp only [execOp,hx,hy,mX,if_true,pQ,Option.bind_some]) h
   ·exact .mk (by simp only [execOp,hx,hy,mX,if_true,pQ,Option.bind_some]) h
   ·exact .mk (by simp only [execOp,hx,hy,mX,if_true,pQ,Option.bind_some]) h
   ·exact .mk (by simp only [execOp,hx,hy,mX,if_true,pQ,Option.bind_some]) h
   ·exact .mk (by simp only [execOp,hx,hy,mX,if_true,pQ,Option.bind_some]) h
   ·exact h.elim
  ·exact h.elim
 ·rename_i m n hx hy
  split at h
  ·exact .mk (by simp only [execOp,hx,hy,mX,if_true,Option.bind_some]) h
  ·exact .mk (by simp only [execOp,hx,hy,mX,if_true,Option.bind_some]) h
  ·exact h.elim
 ·rename_i m n hx hy
  split at h
  ·obtain ⟨r,a',h0,h1,h2⟩:=JJ h
   exact .mk (by simp only [execOp,hx,hy,mX,if_pos h0,h1,Option.bind_some]) h2
  ·exact .mk (by simp only [execOp,hx,hy,mX,Option.bind_some]) h
  ·exact .mk (by simp only [execOp,hx,hy,mX,Option.bind_some]) h
  ·exact h.elim
 ·exact h.elim
theorem RN{n:Option Nat}{x:a8}{a:AT}{k:KW}(h:RJ E st n (st.ev x) a k):Told (.ld n x) k G Ω E st d:=by
 unfold RJ at h
 split at h
 ·rename_i kk off hx
  obtain ⟨cs,r,h1,h2⟩:=tc h
  split at h2
  ·rename_i t es hp
   exact .mk (by simp only [execOp,hx,h1,hp,Option.bind_some]) h2
  ·rename_i y hy hp
   obtain ⟨h3,h4⟩:=cj h2
   refine .mk (x:=y) (st':=st) ?_ h4
   simp only [execOp,hx,h1,hp,Option.bind_some,if_pos h3]
  ·exact h2.elim
 ·rename_i y off hx
  split at h
  ·rename_i z hp
   exact .mk (by simp only [execOp,hx,hp,Option.bind_some]) h
  ·exact h.elim
 ·rename_i pl i sz off hx
  obtain ⟨t,es,r,h1,h2⟩:=fe h
  obtain ⟨e,r',h3,h4,h5⟩:=tC h2
  split at h5
  ·rename_i z hp
   exact .mk (by simp only [execOp,hx,h1,h3,hp,h4,if_true,Option.bind_some]) h5
  ·exact h5.elim
 ·exact h.elim
theorem RO{n:Nat}{x y:a8}{a:AT}{k:KW}(h:RK E st n (st.ev x) (st.ev y) y a k):Told (.st n x y) k G Ω E st d:=by
 unfold RK at h
 split at h
 ·rename_i kk off hx
  obtain ⟨hro,h⟩:=h
  obtain ⟨cs,r,h1,h2⟩:=tc h
  split at h2
  ·rename_i t es hy
   split at h2
   ·rename_i m
    obtain ⟨h3,h4⟩:=cj h2
    obtain ⟨r',h5⟩:=nS h4
    exact .mk (by simp only [execOp,hx,Iu hro _,if_true,h1,hy,Option.bind_some,if_pos h3]) h5
   ·exact h2.elim
  ·rename_i pl lo len hy
   obtain ⟨rfl,h2⟩:=h2
   obtain ⟨h3,h4⟩:=cj h2
   obtain ⟨t,es,r1,h5,h6⟩:=fe h4
   obtain ⟨es',r2,h7,rfl,h9⟩:=km h6
   obtain ⟨r',h10⟩:=nS h9
   simp only [Bool.and_eq_true] at h3
   exact .mk (by simp only [execOp,hx,Iu hro _,if_true,h1,hy,Option.bind_some,h3.1,h3.2,Bool.and_self,decide_true,Bool.true_and,h5,if_pos h7,true_and,and_self]) h10
  ·rename_i y' hy1 hy2
   obtain ⟨h0,h2⟩:=h2
   obtain ⟨h3,h4⟩:=cj h2
   obtain ⟨r',h5⟩:=nS h4
   have h6:((st.ev y).copy&&(st.ev y).nc==n&&(st.ev y).cl.all AV.one&&(st.ev y).deep kk.dp&&decide (off+n≤cs.length))=true:=by
    simp only [Bool.and_eq_true] at h3 ⊢
    exact ⟨⟨h3.1,h0⟩,h3.2⟩
   refine .mk (x:=.u) (st':=st.aM E.dp kk (putCells cs off (st.ev y).cl)) ?_ h5
   simp only [execOp,hx,Iu hro _,if_true,h1,Option.bind_some,if_pos h6]
 ·rename_i pl i sz off hx
  obtain ⟨hro,h⟩:=h
  obtain ⟨t,es,r,h1,h2⟩:=fe h
  obtain ⟨e,r1,h3,h4⟩:=vX h2
  obtain ⟨h5,h6⟩:=cj h4
  obtain ⟨es',r2,rfl,h8⟩:=km h6
  obtain ⟨st',r3,h9,h10⟩:=yw h8
  exact .mk (by simp only [execOp,hx,q7 hro,if_true,h1,h3,Option.bind_some,if_pos h5,h9]) h10
 ·exact h.elim
theorem td{x:Option a8}{dflt:Nat}{a:AT}{k:Nat→AT→Prop}(h:Av (x.map st.ev) dflt a k):∃ j r,lF st x dflt=some j∧k j r:=by
 cases x with
 | none=>exact ⟨dflt,a,rfl,h⟩
 | some y=>
  obtain ⟨j,r,h1,h2⟩:=CJ (x:=st.ev y) h
  exact ⟨j,r,h1,h2⟩
theorem RP{t sz:Nat}{x:a8}{lo hi:Option a8}{a:AT}{k:KW}(h:RL E st t sz (st.ev x) (lo.map st.ev) (hi.map st.ev) a k):Told (.sl t sz x lo hi) k G Ω E st d:=by
 unfold RL at h
 split at h
 ·rename_i l hx
  obtain ⟨i,r1,h1,h2⟩:=td h
  obtain ⟨j,r2,h3,h4⟩:=td h2
  obtain ⟨z,r3,rfl,h5,h6,rfl,h8⟩:=JJ h4
  exact .mk (by simp [execOp,hx,h1,h3,h5,h6]) h8
 ·rename_i t' es hx
  obtain ⟨i,r1,h1,h2⟩:=td h
  obtain ⟨j,r2,h3,h4⟩:=td h2
  obtain ⟨z,r3,h0,hall,h5,h6,rfl,h8⟩:=km h4
  exact .mk (by simp only [execOp,hx,h1,h3,Option.bind_some,hall,bne_iff_ne,ne_eq,h0,not_false_eq_true,h5,h6,decide_true,Bool.and_true,Bool.and_self,if_true]) h8
 ·rename_i pl hx
  obtain ⟨t',es,r0,hr,h⟩:=fe h
  obtain ⟨i,r1,h1,h2⟩:=td h
  obtain ⟨j,r2,h3,h4⟩:=td h2
  obtain ⟨m,r3,h5⟩:=JI h4
  obtain ⟨h6,h7,h8,rfl,h10⟩:=cj h5
  exact .mk (by simp only [execOp,hx,hr,h1,h3,Option.bind_some,h6,h7,h8,decide_true,Bool.and_self,if_true]) h10
 ·exact h.elim
theorem GO{t:TypeId}{x:a8}{a:AT}{k:List AV→St→AT→Prop}(h:Aw E st t x a k):∃ es st' r,consume E st t x=some (es,st')∧k es st' r:=by
 unfold Aw at h
 split at h
 ·exact ⟨_,_,a,rfl,h⟩
 ·exact h.elim
 ·rename_i m
  split at h
  ·rename_i hx
   exact ⟨_,_,a,by simp only [consume,hx],h⟩
  ·rename_i t' es hx
   obtain ⟨h1,h2⟩:=cj h
   exact ⟨_,_,a,by simp only [consume,hx,if_pos (beq_iff_eq.1 h1)],h2⟩
  ·rename_i pl hx
   obtain ⟨hro,h⟩:=h
   obtain ⟨t',es,r,h1,h2⟩:=fe h
   obtain ⟨h3,h4⟩:=cj h2
   obtain ⟨st',r',h5,h6⟩:=yw h4
   exact ⟨_,_,r',by simp only [consume,hx,q7 hro,if_true,h1,Option.bind_some,if_pos (beq_iff_eq.1 h3),h5],h6⟩
  ·rename_i pl lo len hx
   obtain ⟨hro,h⟩:=h
   obtain ⟨h0,h⟩:=cj h
   obtain ⟨t',es,r,h1,h2⟩:=fe h
   obtain ⟨es',r2,h3,h4,rfl,h6⟩:=km h2
   obtain ⟨st',r',h7,h8⟩:=yw h6
   exact ⟨_,_,r',by simp only [consume,hx,q7 hro,h0,Bool.and_self,if_true,h1,Option.bind_some,if_pos (And.intro h3 h4),h7],h8⟩
  ·exact h.elim
theorem RQ{sz:Nat}{arr:Option Nat}{x i:a8}{j:Nat}{a:AT}{k:KW}(hj:py (st.ev i)=some j)(h:RH E st sz arr (st.ev x) x j a k):Told (.ia sz arr x i) k G Ω E st d:=by
 unfold RH at h
 split at h
 ·rename_i len
  obtain ⟨h1,h⟩:=h
  split at h
  ·rename_i kk o hx
   exact .mk (by simp only [execOp,hj,Option.bind_some,if_pos h1,hx]) h
  ·rename_i y o hx
   exact .mk (by simp only [execOp,hj,Option.bind_some,if_pos h1,hx]) h
  ·exact h.elim
 ·split at h
  ·rename_i t es hx
   obtain ⟨e,r,h1,h2,h3⟩:=tC h
   exact .mk (by simp only [execOp,hj,Option.bind_some,hx];exact u9 h1 h2) h3
  ·rename_i t es hx
   split at h
   ·rename_i m
    obtain ⟨e,r,h1,h2,h3⟩:=tC h
    exact .mk (by simp only [execOp,hj,Option.bind_some,hx];exact u9 h1 h2) h3
   ·exact h.elim
  ·rename_i pl hx
   obtain ⟨t,es,r0,h0,h⟩:=fe h
   obtain ⟨e,r,h1,h2,h3⟩:=tC h
   exact .mk (by simp only [execOp,hj,Option.bind_some,hx,h0];exact u9 h1 h2) h3
  ·rename_i pl lo len hx
   obtain ⟨t,es,r0,h0,h4,h5,h⟩:=fe h
   obtain ⟨e,r,h1,h2,h3⟩:=tC h
   exact .mk (by simp only [execOp,hj,Option.bind_some,hx,if_pos h4,h0,if_pos h5];exact u9 h1 h2) h3
  ·exact h.elim
theorem E4{m:Nat}{f:FuncId}{args:List AV}{a:AT}{k:KW}(h:JK G Ω E st m f args a k):∃ x r,fT (call G Ω) Ω E st m f args=some (x,st)∧k x st r:=by
 unfold JK at h
 split at h
 ·obtain ⟨ys,ts,r,h1,h2⟩:=pS h
  obtain ⟨x,r1,h3,h4⟩:=vX h2
  have h5:∃ b,(x.pure&&(ts.isEmpty||x.off ts))=true∧b=r1∧k x st b:=by
   split at h4
   ·obtain ⟨h5,h6⟩:=cj h4
    exact ⟨r1,by simp [h5],rfl,h6⟩
   ·exact ⟨r1,by simp [h4.1,h4.2.1],rfl,h4.2.2⟩
  obtain ⟨b,h6,rfl,h7⟩:=h5
  exact ⟨x,b,by simp only [fT,h1,Option.bind_some,h3,h6,if_true],h7⟩
 ·obtain ⟨ys,ts,r,h1,h2⟩:=pS h
  obtain ⟨x,r1,h3,h4⟩:=vX h2
  have h5:∃ b,(x.pure&&(ts.isEmpty||x.off ts))=true∧b=r1∧k x st b:=by
   split at h4
   ·obtain ⟨h5,h6⟩:=cj h4
    exact ⟨r1,by simp [h5],rfl,h6⟩
   ·exact ⟨r1,by simp [h4.1,h4.2.1],rfl,h4.2.2⟩
  obtain ⟨b,h6,rfl,h7⟩:=h5
  exact ⟨x,b,by simp only [fT,h1,Option.bind_some,h3,h6,if_true],h7⟩
 ·exact h.elim
theorem JL{f:FuncId}{args:List AV}{a:AT}{k:KW}(h:M4 G Ω E st f args a k):∃ x st' r,jg (call G Ω) Ω E st f args=some (x,st')∧k x st' r:=by
 unfold M4 at h
 split at h
 ·rename_i hc
  obtain ⟨x,r,h1,h2⟩:=E4 h
  exact ⟨x,st,r,by rw [jg,if_pos hc];exact h1,h2⟩
 ·rename_i hc
  obtain ⟨h1,h2,h⟩:=h
  obtain ⟨h3,h⟩:=cj h
  obtain ⟨x,r1,h⟩:=vX h
  obtain ⟨hp2,r2,h⟩:=tB h
  obtain ⟨bx,r3,h⟩:=Hr h
  obtain ⟨hp3,r4,h4,rfl,rfl,h5⟩:=tB h
  refine ⟨x,st.back E.dp hp2,r4,?_,h5⟩
  rw [jg,if_neg (by rw [hc];simp)]
  simp only [h1,h2,h3,Bool.not_false,Bool.and_self,if_true,h4,Option.bind_some]
theorem RR{f:FuncId}{args:List AV}{a:AT}{k:KW}(h:YL G Ω E st f args a k):∃ x r,p6 (call G Ω) E st f args=some (x,st)∧k x st r:=by
 obtain ⟨h1,h⟩:=h
 obtain ⟨h2,h⟩:=cj h
 obtain ⟨x,r1,h⟩:=vX h
 obtain ⟨hp2,r2,h3,h⟩:=tB h
 obtain ⟨h4,h5⟩:=cj h
 exact ⟨x,r2,by simp only [p6,h1,h2,Bool.and_self,if_true,h3,Option.bind_some,h4],h5⟩
theorem E5{o:mr}{a:AT}{k:KW}(h:lS G Ω E st d a o k):Told o k G Ω E st d:=by
 cases o with
 | mv x=>
  simp only [lS] at h
  split at h
  ·rename_i t es hx
   split at h
   ·exact .mk (by simp only [execOp,hx]) h
   ·exact h.elim
  ·rename_i hx
   refine .mk (x:=st.ev x) (st':=st) ?_ h
   simp only [execOp]
 | as x=>
  cases x with
  | c y=>
   obtain ⟨h1,h2⟩:=cj h
   exact .mk (by simp only [execOp,h1,if_true]) h2
  | t n=>
   simp only [lS] at h
   split at h
   ·rename_i t es hx
    split at h
    ·exact .mk (by simp only [execOp,hx,Option.bind_some]) h
    ·exact h.elim
   ·rename_i pl lo len hx
    split at h
    ·rename_i dd
     obtain ⟨own,r,h⟩:=rU h
     cases own with
     | true=>
      obtain ⟨rfl,h⟩:=h
      obtain ⟨h1,h⟩:=cj h
      obtain ⟨t,es,r1,h2,h⟩:=fe h
      obtain ⟨es',r2,h3,rfl,h5⟩:=km h
      exact .mk (by simp only [execOp,hx,Option.bind_some,h1,decide_true,Bool.and_self,and_self,if_true,h2,if_pos h3]) h5
     | false=>
      obtain ⟨h1,h2⟩:=h
      refine .mk (x:=.v pl lo len) (st':=st) ?_ h2
      simp only [execOp,hx,Option.bind_some]
      rw [if_neg]
      simp only [Bool.and_eq_true,decide_eq_true_eq]
      rintro ⟨h3,h4⟩
      rw [h1 h3] at h4
      cases h4
    ·exact h.elim
   ·rename_i hx1 hx2
    obtain ⟨h1,h2⟩:=cj h
    refine .mk (x:=ax st.fr n) (st':=st) ?_ h2
    simp only [execOp,if_pos h1]
 | pk c x y=>
  simp only [lS] at h
  split at h
  ·rename_i z hc
   obtain ⟨w,r,rfl,h⟩:=rU h
   cases z with
   | true=>
    obtain ⟨h1,h2⟩:=cj h
    exact .mk (by simp only [execOp,hc,pZ,Option.bind_some,if_true,h1]) h2
   | false=>
    obtain ⟨h1,h2⟩:=cj h
    exact .mk (by simp only [execOp,hc,pZ,Option.bind_some,Bool.false_eq_true,if_false,h1,if_true]) h2
  ·exact h.elim
 | bx x=>
  simp only [lS] at h
  split at h
  ·rename_i dd
   obtain ⟨h1,h⟩:=h
   obtain ⟨h2,h3⟩:=cj h
   simp only [Bool.and_eq_true] at h1 h2
   exact .mk (by simp only [execOp,Option.bind_some,h1.1,h1.2.1,h1.2.2,h2.1.1,h2.1.2,h2.2,Bool.and_self,if_true]) h3
  ·exact h.elim
 | al zs=>
  simp only [lS] at h
  split at h
  ·rename_i dd
   obtain ⟨h1,h⟩:=h
   obtain ⟨h2,h3⟩:=cj h
   simp only [Bool.and_eq_true] at h1
   exact .mk (by simp only [execOp,Option.bind_some,h1.1,h1.2,h2,Bool.and_self,if_true]) h3
  ·exact h.elim
 | ld n x=>exact RN h
 | st n x y=>exact RO h
 | fa off x=>
  simp only [lS] at h
  split at h
  ·rename_i hx;exact .mk (by simp only [execOp,hx]) h
  ·rename_i hx;exact .mk (by simp only [execOp,hx]) h
  ·rename_i hx
   obtain ⟨t,es,r,h1,h2,h3⟩:=fe h
   exact .mk (by simp only [execOp,hx,h1,Option.bind_some,if_pos h2]) h3
  ·exact h.elim
 | ia sz arr x i=>
  obtain ⟨j,r,h1,h2⟩:=CJ (x:=st.ev i) h
  exact RQ h1 h2
 | bo op bl x y=>exact RM h
 | no x=>
  simp only [lS] at h
  split at h
  ·rename_i y hx
   exact .mk (by simp only [execOp,hx,pZ,Option.bind_some]) h
  ·exact h.elim
 | ae ks ng x y=>
  simp only [lS] at h
  split at h
  ·rename_i hx hy
   obtain ⟨r,a',h1,h2⟩:=rU h
   exact .mk (by simp only [execOp,hx,hy,h1,Option.bind_some]) h2
  ·exact h.elim
 | cv ki x=>
  simp only [lS] at h
  split at h
  ·rename_i hx
   obtain ⟨r,a',h1,h2⟩:=qv h
   exact .mk (by simp only [execOp,hx,h1]) h2
  ·exact h.elim
 | bs t sz es=>
  simp only [lS] at h
  split at h
  ·obtain ⟨h1,h2⟩:=cj h
   obtain ⟨vs,r,rfl,h3⟩:=km h2
   exact .mk (by simp only [execOp,Option.bind_some,h1,if_true]) h3
  ·exact h.elim
 | bd zs fs=>
  obtain ⟨h1,h2⟩:=cj h
  exact .mk (by simp only [execOp,h1,if_true]) h2
 | ms t sz by_ x n=>
  simp only [lS] at h
  split at h
  ·obtain ⟨m,r,h1,h2⟩:=CJ h
   obtain ⟨es,r2,h3,h4,rfl,h6⟩:=km h2
   exact .mk (by simp only [execOp,Option.bind_some,h1,h3,h4,decide_true,Bool.and_self,if_true]) h6
  ·exact h.elim
 | sl t sz x lo hi=>exact RP h
 | ex x i=>
  simp only [lS] at h
  split at h
  ·rename_i vs hx
   split at h
   ·rename_i y hy
    exact .mk (by simp only [execOp,hx,hy,Option.bind_some]) h
   ·exact h.elim
  ·exact h.elim
 | mf f caps=>
  obtain ⟨h1,h2⟩:=cj h
  exact .mk (by simp only [execOp,h1,if_true]) h2
 | ca m f args=>
  obtain ⟨x,r,h1,h2⟩:=E4 h
  exact .mk h1 h2
 | cf m x args=>
  simp only [lS] at h
  split at h
  ·rename_i f caps hx
   obtain ⟨x,r,h1,h2⟩:=E4 h
   exact .mk (by simp only [execOp,hx];exact h1) h2
  ·exact h.elim
 | c2 f args=>
  obtain ⟨x,st',r,h1,h2⟩:=JL h
  exact .mk h1 h2
 | d2 x args=>
  simp only [lS] at h
  split at h
  ·rename_i f caps hx
   obtain ⟨x,st',r,h1,h2⟩:=JL h
   exact .mk (by simp only [execOp,hx];exact h1) h2
  ·exact h.elim
 | c3 f args=>
  obtain ⟨x,r,h1,h2⟩:=RR h
  exact .mk h1 h2
 | cn f args=>
  simp only [lS] at h
  split at h
  ·rename_i dd
   obtain ⟨h1,h2,h⟩:=h
   obtain ⟨h3,h⟩:=cj h
   obtain ⟨cs,r1,h⟩:=km h
   obtain ⟨hp2,r2,h⟩:=tB h
   obtain ⟨bx,r3,h⟩:=Hr h
   obtain ⟨hp3,r4,h4,rfl,rfl,h5,h6⟩:=tB h
   refine .mk (x:=.p ⟨E.dp,dd⟩ 0) (st':={(st.back E.dp hp2) with bx:=(dd,cs)::(st.back E.dp hp2).bx}) ?_ h6
   have h5':px E.dp (st.back E.dp hp2) dd=true:=h5
   simp only [execOp,Option.bind_some,vS,h1,h2,h3,Bool.not_false,Bool.and_self,if_true,h4,h5']
  ·exact h.elim
 | ck f args=>
  simp only [lS] at h
  split at h
  ·rename_i dd
   obtain ⟨h1,h⟩:=cj h
   obtain ⟨cs,r1,h⟩:=km h
   obtain ⟨hp2,r2,h4,h5,h6⟩:=tB h
   exact .mk (by simp only [execOp,Option.bind_some,vT,h1,if_true,h4,h5]) h6
  ·exact h.elim
 | cr t f args=>
  simp only [lS] at h
  split at h
  ·rename_i dd
   obtain ⟨h1,h2,h3⟩:=cj h
   exact .mk (by simp only [execOp,Option.bind_some,CB,h1,if_true,h2]) h3
  ·exact h.elim
 | ln str x=>
  simp only [lS] at h
  split at h
  ·rename_i l hx
   obtain ⟨h1,h2⟩:=cj h
   obtain ⟨n,r,h3,h4⟩:=qv h2
   exact .mk (by simp only [execOp,hx,h1,if_true,h3]) h4
  ·rename_i hx
   obtain ⟨h1,h2⟩:=cj h
   obtain ⟨t,es,r,h3,h4⟩:=DV h2
   obtain ⟨n,r,h5,h6⟩:=qv h4
   have hs:str=false:=by simpa using h1
   refine .mk (x:=.i .i64 n) (st':=st) ?_ h6
   have hsp:∀ kk o m s,st.ev x≠.sp kk o m s:=fun kk o m s e=>by rw [e] at h3;cases h3
   simp only [execOp,hs,Bool.false_eq_true,if_false]
   simp only [h3,Option.bind_some,h5]
 | ap t sz by_ x y=>
  simp only [lS] at h
  split at h
  ·obtain ⟨t',ys,r,h1,h2⟩:=DV h
   obtain ⟨es,st',r2,h3,h4⟩:=GO h2
   obtain ⟨z,r3,h5,h6,h7,rfl,h9⟩:=km h4
   exact .mk (by simp only [execOp,Option.bind_some,h1,h3,h5,h6,h7,decide_true,Bool.and_self,if_true]) h9
  ·exact h.elim
 | nc x=>
  simp only [lS] at h
  split at h
  ·rename_i hx;exact .mk (by simp only [execOp,hx]) h
  ·rename_i hx;exact .mk (by simp only [execOp,hx]) h
  ·rename_i hx;exact .mk (by simp only [execOp,hx]) h
  ·exact h.elim
 | ch f args sl dl ow=>exact (show False from h).elim
 | bg zs fs=>
  obtain ⟨h1,h2⟩:=cj h
  exact .mk (by simp only [execOp,h1,if_true]) h2
 | bxg x=>
  simp only [lS] at h
  split at h
  ·rename_i dd
   split at h
   ·rename_i cs rs hx
    obtain ⟨h1,h2⟩:=cj h
    split at h2
    ·rename_i st' ht
     exact .mk (by simp only [execOp,Option.bind_some,hx,h1,if_true,ht,Option.map_some]) h2
    ·exact h2.elim
   ·exact h.elim
  ·exact h.elim
 | lk n x y lv=>exact (show False from h).elim
end
section
variable (G:mY)(Ω:cD)(E:Env)
abbrev KS:=St→AT→Prop
noncomputable def gW(st:St)(g:dQ)(a:AT)(q:KS):Prop:=
 match g.g with
 | none=>lS G Ω E st g.d a g.o fun x st' a=>q (put st' g.d (dX g.fz x)) a
 | some (j,want)=>match ax st.fr j with
  | .b x=>Bu a fun y a=>(x==want)=y∧(match y with
   | true=>lS G Ω E st g.d a g.o fun x st' a=>q (put st' g.d (dX g.fz x)) a
   | false=>q (put st g.d .sk) a)
  | .sk=>q (put st g.d .sk) a
  | _=>False
def Ax(dp:Nat)(p:bM)(v:St)(q:Prop):Prop:=
 match p.p.o with
 | .st _ x y=>(match DO (v.ev y) with
  | false=>q
  | true=>match v.ev x with
   | .p k _=>k.dp=dp∧fx (p.vb==[k.d]&&(match y with
    | .t m=>p.cs==[m]
    | .c _=>false)) q
   | _=>False)
 | .ap _ _ _ x _=>fx (CC (v.ev x)==(p.cs.length==2)) q
 | _=>q
theorem GP{dp:Nat}{p:bM}{v:St}{q:Prop}(h:Ax dp p v q):ga dp p v=true∧q:=by
 unfold Ax at h
 unfold ga
 split at h
 ·rename_i n x y ho
  simp only [ho]
  split at h
  ·rename_i hy
   exact ⟨by rw [hy];rfl,h⟩
  ·rename_i hy
   split at h
   ·rename_i k off hx
    obtain ⟨h1,h2⟩:=h
    obtain ⟨h3,h4⟩:=cj h2
    refine ⟨?_,h4⟩
    rw [hy,hx]
    simp only [Bool.and_eq_true] at h3
    simp only [h1,decide_true,h3.1,Bool.not_true,Bool.false_or,Bool.true_and]
    exact h3.2
   ·exact h.elim
 ·rename_i ho
  simp only [ho]
  exact cj h
 ·rename_i hne hna
  refine ⟨?_,h⟩
  split
  ·rename_i n x y ho
   exact (hne _ _ _ ho).elim
  ·rename_i ho
   exact (hna _ _ _ _ _ ho).elim
  ·rfl
noncomputable def Iv(st:St)(p:bM)(a:AT)(q:KS):Prop:=
 fx (gP (view p st) p.p.o) (Ax E.dp p (view p st) (lS G Ω E (view p st) p.p.d a p.p.o fun x v' a=>(aY E.dp p.nk x&&okB E.dp p.nb x)=true∧q ((effect p (x,v')).app st) a))
noncomputable def dW(st:St)(p:bM)(a:AT)(q:KS):Prop:=
 match p.lt with
 | true=>match p.p.g with
  | none=>Iv G Ω E st p a q
  | some (j,want)=>match ax st.fr j with
   | .b x=>Bu a fun y a=>(x==want)=y∧(match y with
    | true=>Iv G Ω E st p a q
    | false=>q ((⟨gv p.p.d .sk,[],[],none⟩:bu).app st) a)
   | .sk=>q ((⟨gv p.p.d .sk,[],[],none⟩:bu).app st) a
   | _=>False
 | false=>gW G Ω E st p.p a q
noncomputable def mg(kf kb:List Nat)(gs:List dQ)(st:St):Option St:=(j0 (call G Ω) Ω E st gs).map fun s=>s.bq kf kb
noncomputable def xa(kf kb:List Nat)(gs:List bM)(st:St):Option St:=(nP (call G Ω) Ω E st gs).map fun s=>s.bq kf kb
def RS(d:Option Nat)(m n:Nat)(d':Option Nat):Bool:=(match d,d' with
 | some x,some y=>x==y
 | none,none=>true
 | _,_=>false)&&m==n
noncomputable def yx(kf kb:List Nat):St→List dQ→AT→KS→Prop
 | st,[],a,q=>q (st.bq kf kb) a
 | st,g::gs,a,q=>match a with
  | .jb d n b=>(match RS g.d gs.length n d with
   | true=>fU b fun b=>match b with
    | .co (.jn X) r=>mg G Ω E kf kb (g::gs) st=some X∧q X r
    | _=>False
   | false=>gW G Ω E st g (.jb d n b) fun st a=>yx kf kb st gs a q)
  | a=>gW G Ω E st g a fun st a=>yx kf kb st gs a q
noncomputable def yz(kf kb:List Nat):St→List bM→AT→KS→Prop
 | st,[],a,q=>q (st.bq kf kb) a
 | st,p::ps,a,q=>match a with
  | .jb d n b=>(match RS p.p.d ps.length n d with
   | true=>fU b fun b=>match b with
    | .co (.jn X) r=>xa G Ω E kf kb (p::ps) st=some X∧q X r
    | _=>False
   | false=>dW G Ω E st p (.jb d n b) fun st a=>yz kf kb st ps a q)
  | a=>dW G Ω E st p a fun st a=>yz kf kb st ps a q
def sQ(st:St)(p:u4)(a:AT)(q:KS):Prop:=
 match p with
 | .own d t=>match ax st.fr d with
  | .n=>q ((st.a6 (.s d)).bQ d (.o t [])) a
  | .o _ _=>q st a
  | _=>False
 | .fz d=>match ax st.fr d with
  | .o t es=>q (st.bQ d (.l t es)) a
  | _=>False
 | .ownC d off t=>match ax st.fr d with
  | .p k o=>E.ro=false∧(Au E st k a fun cs a=>match cs[o+off]? with
   | some .n=>q6 E (st.a6 (.c k (o+off))) k (cs.set (o+off) (.o t [])) a q
   | some (.o _ _)=>q st a
   | _=>False)
  | _=>False
 | .fzC d off=>match ax st.fr d with
  | .p k o=>E.ro=false∧(Au E st k a fun cs a=>match cs[o+off]? with
   | some (.o t es)=>q6 E st k (cs.set (o+off) (.l t es)) a q
   | _=>False)
  | _=>False
 | .fzB d agg=>match ax st.fr d with
  | .p k 0=>k.dp=E.dp∧(match ay st.bx k.d with
   | some cs=>fx (AV.bK cs) (match agg with
    | true=>q {(st.bQ d (.e (.a cs) 0)) with bx:=st.bx.filter fun y=>y.1 !=k.d} a
    | false=>match cs with
     | [c]=>q {(st.bQ d (.e c 0)) with bx:=st.bx.filter fun y=>y.1 !=k.d} a
     | _=>False)
   | none=>False)
  | _=>False
 | .Gl d off nd sz=>match eC E st (.Gl d off nd sz) with
  | some st'=>q st' a
  | none=>False
 | .unp d off=>match eC E st (.unp d off) with
  | some st'=>q st' a
  | none=>False
def Iw:St→List u4→AT→KS→Prop
 | st,[],a,q=>q st a
 | st,p::ps,a,q=>sQ E st p a fun st a=>Iw st ps a q
abbrev KX:=aQ→St→AT→Prop
noncomputable def cW:AC→St→AT→KX→Prop
 | .sk,st,a,q=>q .nrm st a
 | .rg pre ops kf kb,st,a,q=>Iw E st pre a fun st a=>yx G Ω E kf kb st ops a fun st a=>q .nrm st a
 | .dg pre mks ops kf kb,st,a,q=>Iw E st pre a fun st a=>(mks.all (eB E.dp st)&&ops.all (rA E.dp st))=true∧(yz G Ω E kf kb st ops a fun st a=>q .nrm st a)
 | .sq x y,st,a,q=>cW x st a fun e st a=>match e with
  | .nrm=>cW y st a q
  | e=>q e st a
 | .ite c x y,st,a,q=>match st.ev c with
  | .b z=>Bu a fun w a=>z=w∧(match w with
   | true=>cW x st a q
   | false=>cW y st a q)
  | _=>False
 | .bl id x,st,a,q=>cW x st a fun e st a=>match e with
  | .ex id'=>if id'=id then q .nrm st a else q (.ex id') st a
  | e=>q e st a
 | .lp (.kp kf kb x),st,a,q=>It a fun e st' a=>run G Ω E (.lp (.kp kf kb x)) (st.bq kf kb)=some (e,st')∧q e st' a
 | .lp x,st,a,q=>It a fun e st' a=>run G Ω E (.lp x) st=some (e,st')∧q e st' a
 | .ex id,st,a,q=>q (.ex id) st a
 | .rt,st,a,q=>q .ret st a
 | .bad,_,_,_=>False
 | .ru g x y b,st,a,q=>It a fun e st' a=>run G Ω E (.ru g x y b) st=some (e,st')∧q e st' a
 | .kp kf kb x,st,a,q=>match a with
  | .fb b=>fU b fun b=>match b with
   | .co (.fr e st') r=>run G Ω E x (st.bq kf kb)=some (e,st')∧q e st' r
   | _=>False
  | _=>cW x (st.bq kf kb) a q
def Bw(st:St)(x:AV)(a:AT)(q:AV→AT→Prop):Prop:=
 match x with
 | .o t es=>q (.l t es) a
 | .r (.s d)=>lI E st (.s d) a fun t es a=>q (.l t es) a
 | .r (.c k off)=>k.dp=E.dp∧(lI E st (.c k off) a fun t es a=>q (.l t es) a)
 | .v (.s d) lo len=>lI E st (.s d) a fun t es a=>tA a fun es' a=>lo+len≤es.length∧(es.drop lo).take len=es'∧q (.l t es') a
 | .v (.c _ _) _ _=>False
 | .q _ _ _ _=>False
 | .w _ _ _=>False
 | .ag _ _=>False
 | .bp _ _ _=>False
 | x=>q x a
def Ix(st:St):List AV→AT→(List AV→AT→Prop)→Prop
 | [],a,q=>q [] a
 | x::xs,a,q=>Bw E st x a fun y a=>Ix st xs a fun ys a=>q (y::ys) a
def Iy(st:St)(z:RV)(a:AT)(q:AV→AT→Prop):Prop:=
 match z with
 | .t n=>Bw E st (ax st.fr n) a q
 | .c n sz=>match ax st.fr n with
  | .p k off=>k.dp=E.dp∧(match ay st.bx k.d with
   | some cs=>match pick sz off cs with
    | some (.a ds)=>Ix E st ds a fun ds a=>q (.a ds) a
    | some y=>Bw E st y a q
    | none=>False
   | none=>False)
  | _=>False
def LI(st:St):List RV→AT→(List AV→Prop)→Prop
 | [],_,q=>q []
 | z::zs,a,q=>Iy E st z a fun y a=>LI st zs a fun ys=>q (y::ys)
noncomputable def E6(fn:bc)(ys:List AV)(hp:HP)(a:AT)(q:List AV→HP→Prop):Prop:=
 cW G Ω E fn.code ⟨jR 0 ys,[],hp⟩ a fun e st _=>match e with
  | .ex _=>False
  | _=>match fn.res with
   | [.t n]=>match ax st.fr n with
    | .p k 0=>k.dp=E.dp∧(match ay st.bx k.d with
     | some cs=>(cs.all p7)=true∧q cs st.hp
     | none=>False)
    | _=>False
   | _=>False
noncomputable def Iz(fn:bc)(ys:List AV)(hp:HP)(a:AT)(q:AV→HP→Prop):Prop:=
 cW G Ω E fn.code ⟨jR 0 ys,[],hp⟩ a fun e st a=>match e with
  | .ex _=>False
  | _=>LI E st fn.res a fun xs=>fx (AV.bK xs) (q (ya xs) st.hp)
end
section
variable {G:mY}{Ω:cD}{E:Env}
theorem M5{st:St}{g:dQ}{a:AT}{q:KS}(h:gW G Ω E st g a q):∃ st' r,fL (call G Ω) Ω E st g=some st'∧q st' r:=by
 unfold gW at h
 split at h
 ·rename_i hg
  obtain ⟨x,st',r,h1,h2⟩:=E5 h
  exact ⟨_,r,by simp only [fL,hg,h1,Option.bind_some],h2⟩
 ·rename_i j want hg
  split at h
  ·rename_i x hx
   obtain ⟨y,r,rfl,h⟩:=rU h
   split at h
   ·rename_i hy
    obtain ⟨x',st',r,h1,h2⟩:=E5 h
    exact ⟨_,r,by simp only [fL,hg,hx,yr,Option.bind_some,hy,if_true,h1],h2⟩
   ·rename_i hy
    exact ⟨_,r,by simp only [fL,hg,hx,yr,Option.bind_some,hy,Bool.false_eq_true,if_false],h⟩
  ·rename_i hx
   exact ⟨_,a,by simp only [fL,hg,hx,yr,Option.bind_some,Bool.false_eq_true,if_false],h⟩
  ·exact h.elim
theorem E7{st:St}{p:bM}{a:AT}{q:KS}(h:Iv G Ω E st p a q):∃ P r,iJ (call G Ω) Ω E p (view p st)=some P∧q (P.app st) r:=by
 obtain ⟨h0,h⟩:=cj h
 obtain ⟨h1,h⟩:=GP h
 obtain ⟨x,st',r,h2,h3,h4⟩:=E5 h
 exact ⟨_,r,by simp only [iJ,h0,h1,Bool.and_self,if_true,h2,Option.bind_some,h3],h4⟩
theorem WI{st:St}{p:bM}{a:AT}{q:KS}(h:dW G Ω E st p a q):∃ st' r,cG (call G Ω) Ω E st p=some st'∧q st' r:=by
 unfold dW at h
 split at h
 ·rename_i hlt
  split at h
  ·rename_i hg
   obtain ⟨P,r,h1,h2⟩:=E7 h
   exact ⟨_,r,by simp only [cG,hlt,if_true,cF,hg,h1,Option.bind_some],h2⟩
  ·rename_i j want hg
   split at h
   ·rename_i x hx
    obtain ⟨y,r,rfl,h⟩:=rU h
    split at h
    ·rename_i hy
     obtain ⟨P,r,h1,h2⟩:=E7 h
     exact ⟨_,r,by simp only [cG,hlt,if_true,cF,hg,hx,yr,hy,h1,Option.bind_some],h2⟩
    ·rename_i hy
     exact ⟨_,r,by simp only [cG,hlt,if_true,cF,hg,hx,yr,hy,Option.bind_some,Bool.false_eq_true,if_false],h⟩
   ·rename_i hx
    exact ⟨_,a,by simp only [cG,hlt,if_true,cF,hg,hx,yr,Option.bind_some,Bool.false_eq_true,if_false],h⟩
   ·exact h.elim
 ·rename_i hlt
  obtain ⟨st',r,h1,h2⟩:=M5 h
  exact ⟨st',r,by simp only [cG,hlt,Bool.false_eq_true,if_false,h1],h2⟩
theorem CK{kf kb:List Nat} : ∀ {gs:List dQ}{st:St}{a:AT}{q:KS},yx G Ω E kf kb st gs a q→∃ st' r,mg G Ω E kf kb gs st=some st'∧q st' r
 | [],st,a,q,h=>⟨_,a,rfl,h⟩
 | g::gs,st,a,q,h=>by
  have key:∀ a',(gW G Ω E st g a' fun st a=>yx G Ω E kf kb st gs a q)→∃ st' r,mg G Ω E kf kb (g::gs) st=some st'∧q st' r:=by
   intro a' h
   obtain ⟨st1,r1,h1,h2⟩:=M5 h
   obtain ⟨st2,r2,h3,h4⟩:=CK h2
   exact ⟨st2,r2,by simp only [mg,j0,h1,Option.bind_some];exact h3,h4⟩
  unfold yx at h
  split at h
  ·split at h
   ·obtain ⟨b,h⟩:=dZ h
    split at h
    ·exact ⟨_,_,h.1,h.2⟩
    ·exact h.elim
   ·exact key _ h
  ·exact key _ h
theorem CL{kf kb:List Nat} : ∀ {gs:List bM}{st:St}{a:AT}{q:KS},yz G Ω E kf kb st gs a q→∃ st' r,xa G Ω E kf kb gs st=some st'∧q st' r
 | [],st,a,q,h=>⟨_,a,rfl,h⟩
 | g::gs,st,a,q,h=>by
  have key:∀ a',(dW G Ω E st g a' fun st a=>yz G Ω E kf kb st gs a q)→∃ st' r,xa G Ω E kf kb (g::gs) st=some st'∧q st' r:=by
   intro a' h
   obtain ⟨st1,r1,h1,h2⟩:=WI h
   obtain ⟨st2,r2,h3,h4⟩:=CL h2
   exact ⟨st2,r2,by simp only [xa,nP,h1,Option.bind_some];exact h3,h4⟩
  unfold yz at h
  split at h
  ·split at h
   ·obtain ⟨b,h⟩:=dZ h
    split at h
    ·exact ⟨_,_,h.1,h.2⟩
    ·exact h.elim
   ·exact key _ h
  ·exact key _ h
theorem LJ{st:St}{p:u4}{a:AT}{q:KS}(h:sQ E st p a q):∃ st' r,eC E st p=some st'∧q st' r:=by
 cases p with
 | own d t=>
  simp only [sQ] at h
  split at h
  ·rename_i hx;exact ⟨_,a,by simp only [eC,hx],h⟩
  ·rename_i hx;exact ⟨_,a,by simp only [eC,hx],h⟩
  ·exact h.elim
 | fz d=>
  simp only [sQ] at h
  split at h
  ·rename_i hx;exact ⟨_,a,by simp only [eC,hx],h⟩
  ·exact h.elim
 | ownC d off t=>
  simp only [sQ] at h
  split at h
  ·rename_i k o hx
   obtain ⟨hro,h⟩:=h
   obtain ⟨cs,r,h1,h2⟩:=tc h
   split at h2
   ·rename_i hc
    obtain ⟨r',h3⟩:=nS h2
    exact ⟨_,r',by simp only [eC,hx,q7 hro,if_true,h1,Option.bind_some,hc],h3⟩
   ·rename_i hc
    exact ⟨_,r,by simp only [eC,hx,q7 hro,if_true,h1,Option.bind_some,hc],h2⟩
   ·exact h2.elim
  ·exact h.elim
 | fzC d off=>
  simp only [sQ] at h
  split at h
  ·rename_i k o hx
   obtain ⟨hro,h⟩:=h
   obtain ⟨cs,r,h1,h2⟩:=tc h
   split at h2
   ·rename_i t es hc
    obtain ⟨r',h3⟩:=nS h2
    exact ⟨_,r',by simp only [eC,hx,q7 hro,if_true,h1,Option.bind_some,hc],h3⟩
   ·exact h2.elim
  ·exact h.elim
 | fzB d agg=>
  simp only [sQ] at h
  split at h
  ·rename_i k hx
   obtain ⟨h1,h⟩:=h
   split at h
   ·rename_i cs hb
    obtain ⟨h2,h⟩:=cj h
    split at h
    ·exact ⟨_,a,by simp only [eC,hx,if_pos h1,hb,Option.bind_some,if_pos h2,if_true],h⟩
    ·split at h
     ·exact ⟨_,a,by simp only [eC,hx,if_pos h1,hb,Option.bind_some,if_pos h2,Bool.false_eq_true,if_false],h⟩
     ·exact h.elim
   ·exact h.elim
  ·exact h.elim
 | Gl d off nd sz=>
  simp only [sQ] at h
  split at h
  ·rename_i st' h1;exact ⟨st',a,h1,h⟩
  ·exact h.elim
 | unp d off=>
  simp only [sQ] at h
  split at h
  ·rename_i st' h1;exact ⟨st',a,h1,h⟩
  ·exact h.elim
theorem CM:∀ {ps:List u4}{st:St}{a:AT}{q:KS},Iw E st ps a q→∃ st' r,sN E st ps=some st'∧q st' r
 | [],st,a,q,h=>⟨st,a,rfl,h⟩
 | p::ps,st,a,q,h=>by
  obtain ⟨st1,r1,h1,h2⟩:=LJ h
  obtain ⟨st2,r2,h3,h4⟩:=CM h2
  exact ⟨st2,r2,by simp only [sN,h1,Option.bind_some,h3],h4⟩
theorem rB:∀ (c:AC){st:St}{a:AT}{q:KX},cW G Ω E c st a q→∃ e st' r,run G Ω E c st=some (e,st')∧q e st' r
 | .sk,st,a,q,h=>⟨_,_,a,vU E st,by simpa only [cW] using h⟩
 | .rg pre ops kf kb,st,a,q,h=>by
  simp only [cW] at h
  obtain ⟨st1,r1,h1,h2⟩:=CM h
  obtain ⟨st2,r2,h3,h4⟩:=CK h2
  obtain ⟨st3,h5,rfl⟩:=Option.map_eq_some_iff.1 h3
  exact ⟨_,_,r2,by rw [vV,h1,Option.bind_some,h5];rfl,h4⟩
 | .dg pre mks ops kf kb,st,a,q,h=>by
  simp only [cW] at h
  obtain ⟨st1,r1,h1,h0,h2⟩:=CM h
  obtain ⟨st2,r2,h3,h4⟩:=CL h2
  obtain ⟨st3,h5,rfl⟩:=Option.map_eq_some_iff.1 h3
  exact ⟨_,_,r2,by rw [Je,h1,Option.bind_some,if_pos h0,h5];rfl,h4⟩
 | .sq x y,st,a,q,h=>by
  simp only [cW] at h
  obtain ⟨e,st1,r1,h1,h2⟩:=rB x h
  cases e with
  | nrm=>
   obtain ⟨e,st2,r2,h3,h4⟩:=rB y h2
   exact ⟨e,st2,r2,by rw [m0,h1];exact h3,h4⟩
  | ex id=>exact ⟨_,_,r1,by rw [m0,h1];rfl,h2⟩
  | ret=>exact ⟨_,_,r1,by rw [m0,h1];rfl,h2⟩
 | .ite c x y,st,a,q,h=>by
  simp only [cW] at h
  split at h
  ·rename_i z hc
   obtain ⟨w,r,rfl,h⟩:=rU h
   cases z with
   | true=>
    obtain ⟨e,st1,r1,h1,h2⟩:=rB x h
    exact ⟨e,st1,r1,by rw [run_ite,hc];exact h1,h2⟩
   | false=>
    obtain ⟨e,st1,r1,h1,h2⟩:=rB y h
    exact ⟨e,st1,r1,by rw [run_ite,hc];exact h1,h2⟩
  ·exact h.elim
 | .bl id x,st,a,q,h=>by
  simp only [cW] at h
  obtain ⟨e,st1,r1,h1,h2⟩:=rB x h
  cases e with
  | nrm=>exact ⟨_,_,r1,by rw [o7,h1];rfl,h2⟩
  | ret=>exact ⟨_,_,r1,by rw [o7,h1];rfl,h2⟩
  | ex id'=>
   simp only at h2
   split at h2
   ·rename_i hi
    exact ⟨_,_,r1,by rw [o7,h1];simp only [Option.bind_some,inBlock,hi,if_true],h2⟩
   ·rename_i hi
    exact ⟨_,_,r1,by rw [o7,h1];simp only [Option.bind_some,inBlock,hi,if_false],h2⟩
 | .lp x,st,a,q,h=>by
  cases x with
  | kp kf kb x=>
   simp only [cW] at h
   obtain ⟨e,st1,r1,h1,h2⟩:=CI h
   refine ⟨e,st1,r1,?_,h2⟩
   exact (CH G Ω E ⟨kf,kb,x⟩ st).trans h1
  | _=>
   simp only [cW] at h
   obtain ⟨e,st1,r1,h1,h2⟩:=CI h
   exact ⟨e,st1,r1,h1,h2⟩
 | .ex id,st,a,q,h=>⟨_,_,a,Jd E st id,by simpa only [cW] using h⟩
 | .ru g x y b,st,a,q,h=>by
  simp only [cW] at h
  obtain ⟨e,st1,r1,h1,h2⟩:=CI h
  exact ⟨e,st1,r1,h1,h2⟩
 | .rt,st,a,q,h=>⟨_,_,a,qt E st,by simpa only [cW] using h⟩
 | .kp kf kb x,st,a,q,h=>by
  unfold cW at h
  split at h
  ·obtain ⟨b,h⟩:=dZ h
   split at h
   ·exact ⟨_,_,_,by rw [o8];exact h.1,h.2⟩
   ·exact h.elim
  ·obtain ⟨e,st1,r1,h1,h2⟩:=rB x h
   exact ⟨e,st1,r1,by rw [o8];exact h1,h2⟩
theorem Ay{st:St}{x:AV}{a:AT}{q:AV→AT→Prop}(h:Bw E st x a q):∃ y r,st.lG E.dp x=some y∧q y r:=by
 unfold Bw at h
 split at h
 ·exact ⟨_,a,rfl,h⟩
 ·obtain ⟨t,es,r,h1,h2⟩:=fe h
  exact ⟨_,r,by simp only [St.lG,h1,Option.bind_some],h2⟩
 ·obtain ⟨h0,h⟩:=h
  obtain ⟨t,es,r,h1,h2⟩:=fe h
  exact ⟨_,r,by simp only [St.lG,if_pos h0,h1,Option.bind_some],h2⟩
 ·obtain ⟨t,es,r,h1,h2⟩:=fe h
  obtain ⟨es',r,h3,rfl,h5⟩:=km h2
  exact ⟨_,r,by simp only [St.lG,h1,Option.bind_some,if_pos h3],h5⟩
 ·exact h.elim
 ·exact h.elim
 ·exact h.elim
 ·exact h.elim
 ·exact h.elim
 ·rename_i h1 h2 h3 h4 h5 h6 h7 h8 h9
  refine ⟨x,a,?_,h⟩
  unfold St.lG
  split
  ·exact (h1 _ _ rfl).elim
  ·exact (h2 _ rfl).elim
  ·exact (h3 _ _ rfl).elim
  ·exact (h4 _ _ _ rfl).elim
  ·exact (h7 _ _ _ rfl).elim
  ·exact (h8 _ _ rfl).elim
  ·exact (h9 _ _ _ rfl).elim
  ·rfl
theorem E8{st:St} : ∀ {xs:List AV}{a:AT}{q:List AV→AT→Prop},Ix E st xs a q→∃ ys r,st.CD E.dp xs=some ys∧q ys r
 | [],a,q,h=>⟨[],a,rfl,h⟩
 | x::xs,a,q,h=>by
  obtain ⟨y,r,h1,h2⟩:=Ay h
  obtain ⟨ys,r2,h3,h4⟩:=E8 h2
  exact ⟨_,r2,by simp only [St.CD,h1,h3,Option.bind_some],h4⟩
theorem LK{st:St}{z:RV}{a:AT}{q:AV→AT→Prop}(h:Iy E st z a q):∃ y r,st.vt E z=some y∧q y r:=by
 cases z with
 | t n=>exact Ay h
 | c n sz=>
  simp only [Iy] at h
  split at h
  ·rename_i k off hx
   obtain ⟨h0,h⟩:=h
   split at h
   ·rename_i cs hb
    split at h
    ·rename_i ds hp
     obtain ⟨ys,r,h1,h2⟩:=E8 h
     exact ⟨_,r,by simp only [St.vt,hx,if_pos h0,hb,hp,h1,Option.bind_some],h2⟩
    ·rename_i y hy hp
     obtain ⟨z,r,h1,h2⟩:=Ay h
     refine ⟨z,r,?_,h2⟩
     simp only [St.vt,hx,if_pos h0,hb,hp,Option.bind_some,h1]
    ·exact h.elim
   ·exact h.elim
  ·exact h.elim
theorem CN{st:St} : ∀ {zs:List RV}{a:AT}{q:List AV→Prop},LI E st zs a q→∃ xs,st.o0 E zs=some xs∧q xs
 | [],a,q,h=>⟨[],rfl,h⟩
 | z::zs,a,q,h=>by
  obtain ⟨y,r,h1,h2⟩:=LK h
  obtain ⟨ys,h3,h4⟩:=CN h2
  exact ⟨_,by simp only [St.o0,h1,h3,Option.bind_some],h4⟩
theorem LL{f:FuncId}{fn:bc}{ys:List AV}{hp:HP}{q:AV→HP→Prop}(hG:G f=some fn)(a:AT)(h:Iz G Ω E fn ys hp a q):∃ x hp',call G Ω E f ys hp=some (.ret x,hp')∧q x hp':=by
 obtain ⟨e,st,r,h1,h2⟩:=rB fn.code h
 cases e with
 | ex id=>exact h2.elim
 | nrm=>
  obtain ⟨xs,h3,h4⟩:=CN h2
  obtain ⟨h5,h6⟩:=cj h4
  exact ⟨_,_,by rw [qY,hG,Option.bind_some,h1];simp only [Option.bind_some,St.end_,St.result,h3,h5,if_true],h6⟩
 | ret=>
  obtain ⟨xs,h3,h4⟩:=CN h2
  obtain ⟨h5,h6⟩:=cj h4
  exact ⟨_,_,by rw [qY,hG,Option.bind_some,h1];simp only [Option.bind_some,St.end_,St.result,h3,h5,if_true],h6⟩
theorem RT{st:St}{rs:List RV}{n:Nat}{k:Key}{cs:List AV}(h1:rs=[.t n])(h2:ax st.fr n= .p k 0)(h3:k.dp=E.dp)(h4:ay st.bx k.d=some cs)(h5:cs.all p7=true):st.end_ E rs=some (.new cs):=by
 subst h1
 have hr:st.result E [.t n]=none:=by simp [St.result,St.o0,St.vt,h2,St.lG,AV.bK,AV.pure]
 simp only [St.end_,hr,St.pz,h2,if_pos h3,h4,Option.bind_some,h5,if_true,Option.map_some]
theorem JM{f:FuncId}{fn:bc}{ys:List AV}{hp:HP}{q:List AV→HP→Prop}(hG:G f=some fn)(a:AT)(h:E6 G Ω E fn ys hp a q):∃ cs hp',call G Ω E f ys hp=some (.new cs,hp')∧q cs hp':=by
 obtain ⟨e,st,r,h1,h2⟩:=rB fn.code h
 have key:∀ {P:Prop},(match fn.res with
   | [.t n]=>match ax st.fr n with
    | .p k 0=>k.dp=E.dp∧(match ay st.bx k.d with
     | some cs=>(cs.all p7)=true∧q cs st.hp
     | none=>False)
    | _=>False
   | _=>False)→(∀ cs,st.end_ E fn.res=some (.new cs)→q cs st.hp→P)→P:=by
  intro P h2 hP
  split at h2
  ·rename_i n hres
   split at h2
   ·rename_i k hk
    obtain ⟨h3,h4⟩:=h2
    split at h4
    ·rename_i cs hb
     exact hP cs (RT hres hk h3 hb h4.1) h4.2
    ·exact h4.elim
   ·exact h2.elim
  ·exact h2.elim
 cases e with
 | ex id=>exact h2.elim
 | nrm=>exact key h2 fun cs h3 h4=>⟨cs,_,by rw [qY,hG,Option.bind_some,h1];simp only [Option.bind_some,h3],h4⟩
 | ret=>exact key h2 fun cs h3 h4=>⟨cs,_,by rw [qY,hG,Option.bind_some,h1];simp only [Option.bind_some,h3],h4⟩
theorem RU{R:Type}{f:FuncId}{fn:bc}{ys:List AV}{hp:HP}{Y:R→aX×HP}{r:R}{T:Prop}(hG:G f=some fn)(a:AT)(h:T)(he:T=E6 G Ω E fn ys hp a fun y h=>(aX.new y,h)=Y r):call G Ω E f ys hp=some (Y r):=by
 obtain ⟨y,h',h1,h2⟩:=JM hG a (he▸h)
 rw [←h2];exact h1
theorem WJ{R:Type}{f:FuncId}{fn:bc}{ys:List AV}{hp:HP}{Y:R→aX×HP}{r:R}{T:Prop}(hG:G f=some fn)(a:AT)(h:T)(he:T=Iz G Ω E fn ys hp a fun y h=>(aX.ret y,h)=Y r):call G Ω E f ys hp=some (Y r):=by
 obtain ⟨y,h',h1,h2⟩:=LL hG a (he▸h)
 rw [←h2];exact h1
theorem runT{R:Type}{c:AC}{st:St}{Y:R→aQ×St}{r:R}{T:Prop}(a:AT)(h:T)(he:T=cW G Ω E c st a fun e s _=>(e,s)=Y r):run G Ω E c st=some (Y r):=by
 obtain ⟨e,s,_,h1,h2⟩:=rB c (he▸h)
 rw [←h2];exact h1
theorem WK{R:Type}{kf kb:List Nat}{gs:List dQ}{st:St}{Y:R→St}{r:R}{T:Prop}(a:AT)(h:T)(he:T=yx G Ω E kf kb st gs a fun s _=>s=Y r):mg G Ω E kf kb gs st=some (Y r):=by
 obtain ⟨s,_,h1,h2⟩:=CK (he▸h)
 rw [←h2];exact h1
theorem WL{R:Type}{kf kb:List Nat}{gs:List bM}{st:St}{Y:R→St}{r:R}{T:Prop}(a:AT)(h:T)(he:T=yz G Ω E kf kb st gs a fun s _=>s=Y r):xa G Ω E kf kb gs st=some (Y r):=by
 obtain ⟨s,_,h1,h2⟩:=CL (he▸h)
 rw [←h2];exact h1
def M6(kf kb:List Nat):aQ→St→St⊕(aQ×St)
 | .nrm,s=>.inl (s.bq kf kb)
 | e,s=>.inr (e,s)
theorem ai{a b:Prop}(x:a)(y:b):a∧b:=⟨x,y⟩
theorem tt:true=true:=rfl
theorem gf:(false==true)=false:=rfl
theorem ht:(true==false)=false:=rfl
theorem hf:(false==false)=true:=rfl
abbrev W(w:List AV)(n:Nat):AV:=w.getD n .u
abbrev bt(r:AT):AT:=.co (.b true) r
abbrev bf(r:AT):AT:=.co (.b false) r
abbrev ao(x:YK)(r:AT):AT:=.co x r
theorem ff:false=false:=rfl
end
end Go.Proofs.YtdpjofmmokaobaaGreat.A
