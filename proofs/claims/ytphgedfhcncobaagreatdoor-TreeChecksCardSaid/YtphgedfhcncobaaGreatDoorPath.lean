/- Paths: what is told of a run (which way it goes, what an element is, what a call answers) gives what must be shown, and nothing else; all else is reckoned. -/
import Derived.Test.YtphgedfhcncobaaGreatDoorAbs3
import Derived.KernelRfl
set_option linter.unusedSectionVars false
set_option linter.unusedVariables false
set_option linter.unusedSimpArgs false
set_option linter.constructorNameAsVariable false
namespace Go.Proofs.YtphgedfhcncobaaGreatDoor.A
open Go
inductive PF where
 | b (x:Bool)
 | n (x:Nat)
 | i (x:Int)
 | v (x:AV)
 | l (es:List AV)
 | s (x:List UInt8)
 | h (hp:HP)
 | bx (bs:List (Nat×List AV))
 | lp (e:aE) (st:St)
 | fr (e:aE) (st:St)
 | jn (st:St)
inductive AT:Type 1 where
 | nil
 | no
 | co (x:PF) (r:AT)
 | or (a b:AT)
 | ex {α:Type} (f:α→AT)
 | jb (d:Option Nat) (n:Nat) (b:AT)
 | fb (b:AT)
def eg:AT→(AT→Prop)→Prop
 | .or a b,k=>eg a k∨eg b k
 | .ex f,k=>∃ x,eg (f x) k
 | .no,_=>False
 | a,k=>k a
theorem cM{k:AT→Prop} : ∀ {a:AT},eg a k→∃ b,k b
 | .or a b,h=>by
  rw [eg] at h
  rcases h with h | h
  ·exact cM h
  ·exact cM h
 | .ex f,h=>by
  rw [eg] at h
  obtain ⟨x,h⟩:=h
  exact cM h
 | .no,h=>h.elim
 | .nil,h=>⟨_,h⟩
 | .co _ _,h=>⟨_,h⟩
 | .jb _ _ _,h=>⟨_,h⟩
 | .fb _,h=>⟨_,h⟩
def vB(a:AT)(k:Bool→AT→Prop):Prop:=eg a fun a=>match a with
 | .co (.b x) r=>k x r
 | _=>False
def IC(a:AT)(k:Nat→AT→Prop):Prop:=eg a fun a=>match a with
 | .co (.n x) r=>k x r
 | _=>False
def s6(a:AT)(k:Int→AT→Prop):Prop:=eg a fun a=>match a with
 | .co (.i x) r=>k x r
 | _=>False
def yQ(a:AT)(k:AV→AT→Prop):Prop:=eg a fun a=>match a with
 | .co (.v x) r=>k x r
 | _=>False
def py(a:AT)(k:List AV→AT→Prop):Prop:=eg a fun a=>match a with
 | .co (.l x) r=>k x r
 | _=>False
def Gc(a:AT)(k:List UInt8→AT→Prop):Prop:=eg a fun a=>match a with
 | .co (.s x) r=>k x r
 | _=>False
def Ae(a:AT)(k:HP→AT→Prop):Prop:=eg a fun a=>match a with
 | .co (.h x) r=>k x r
 | _=>False
def EI(a:AT)(k:List (Nat×List AV)→AT→Prop):Prop:=eg a fun a=>match a with
 | .co (.bx x) r=>k x r
 | _=>False
def EJ(a:AT)(k:aE→St→AT→Prop):Prop:=eg a fun a=>match a with
 | .co (.lp e st) r=>k e st r
 | _=>False
def dI(b:Bool)(p:Prop):Prop:=match b with
 | true=>p
 | false=>False
theorem ov{a:AT}{k:Bool→AT→Prop}(h:vB a k):∃ x r,k x r:=by
 obtain ⟨b,h⟩:=cM h
 split at h
 ·exact ⟨_,_,h⟩
 ·exact h.elim
theorem DO{a:AT}{k:Nat→AT→Prop}(h:IC a k):∃ x r,k x r:=by
 obtain ⟨b,h⟩:=cM h
 split at h
 ·exact ⟨_,_,h⟩
 ·exact h.elim
theorem lJ{a:AT}{k:Int→AT→Prop}(h:s6 a k):∃ x r,k x r:=by
 obtain ⟨b,h⟩:=cM h
 split at h
 ·exact ⟨_,_,h⟩
 ·exact h.elim
theorem pz{a:AT}{k:AV→AT→Prop}(h:yQ a k):∃ x r,k x r:=by
 obtain ⟨b,h⟩:=cM h
 split at h
 ·exact ⟨_,_,h⟩
 ·exact h.elim
theorem gP{a:AT}{k:List AV→AT→Prop}(h:py a k):∃ x r,k x r:=by
 obtain ⟨b,h⟩:=cM h
 split at h
 ·exact ⟨_,_,h⟩
 ·exact h.elim
theorem Af{a:AT}{k:List UInt8→AT→Prop}(h:Gc a k):∃ x r,k x r:=by
 obtain ⟨b,h⟩:=cM h
 split at h
 ·exact ⟨_,_,h⟩
 ·exact h.elim
theorem rf{a:AT}{k:HP→AT→Prop}(h:Ae a k):∃ x r,k x r:=by
 obtain ⟨b,h⟩:=cM h
 split at h
 ·exact ⟨_,_,h⟩
 ·exact h.elim
theorem Ci{a:AT}{k:List (Nat×List AV)→AT→Prop}(h:EI a k):∃ x r,k x r:=by
 obtain ⟨b,h⟩:=cM h
 split at h
 ·exact ⟨_,_,h⟩
 ·exact h.elim
theorem Cj{a:AT}{k:aE→St→AT→Prop}(h:EJ a k):∃ e st r,k e st r:=by
 obtain ⟨b,h⟩:=cM h
 split at h
 ·exact ⟨_,_,_,h⟩
 ·exact h.elim
theorem bz{b:Bool}{p:Prop}(h:dI b p):b=true∧p:=by
 cases b with
 | true=>exact ⟨rfl,h⟩
 | false=>exact h.elim
def wQ(x:AV)(a:AT)(k:Nat→AT→Prop):Prop:=match x with
 | .i _ n=>IC a fun j r=>n=(j:Int)∧k j r
 | _=>False
theorem tU{x:AV}{a:AT}{k:Nat→AT→Prop}(h:wQ x a k):∃ j r,jy x=some j∧k j r:=by
 unfold wQ at h;split at h
 ·obtain ⟨j,r,h1,h2⟩:=DO h
  subst h1
  exact ⟨j,r,by simp [jy],h2⟩
 ·exact h.elim
def s7(E:Env)(st:St)(k:Key)(a:AT)(q:List AV→AT→Prop):Prop:=
 vB a fun own r=>match own with
  | true=>k.dp=E.dp∧(match an st.bx k.d with
   | some cs=>q cs r
   | none=>False)
  | false=>py r fun cs r=>k.dp≠E.dp∧st.hp k=some cs∧q cs r
theorem nE{E:Env}{st:St}{k:Key}{a:AT}{q:List AV→AT→Prop}(h:s7 E st k a q):∃ cs r,st.box E.dp k=some cs∧q cs r:=by
 obtain ⟨own,r,h⟩:=ov h
 cases own with
 | true=>
  obtain ⟨h1,h2⟩:=h
  split at h2
  ·rename_i cs hb
   exact ⟨cs,r,by simp only [St.box,if_pos h1,hb],h2⟩
  ·exact h2.elim
 | false=>
  obtain ⟨cs,r,h1,h2,h3⟩:=gP h
  exact ⟨cs,r,by simp only [St.box,if_neg h1,h2],h3⟩
def nF(E:Env)(st:St)(k:Key)(cs:List AV)(a:AT)(q:St→AT→Prop):Prop:=
 vB a fun own r=>match own with
  | true=>k.dp=E.dp∧q {st with bx:=fU st.bx k.d cs} r
  | false=>Ae r fun hp r=>k.dp≠E.dp∧aP st.hp k cs=hp∧q {st with hp:=hp} r
theorem j7{E:Env}{st:St}{k:Key}{cs:List AV}{a:AT}{q:St→AT→Prop}(h:nF E st k cs a q):∃ r,q (st.az E.dp k cs) r:=by
 obtain ⟨own,r,h⟩:=ov h
 cases own with
 | true=>
  obtain ⟨h1,h2⟩:=h
  exact ⟨r,by simp only [St.az,if_pos h1];exact h2⟩
 | false=>
  obtain ⟨hp,r,h1,h2,h3⟩:=rf h
  subst h2
  exact ⟨r,by simp only [St.az,if_neg h1];exact h3⟩
def iX(E:Env)(st:St)(pl:Pl)(a:AT)(q:TypeId→List AV→AT→Prop):Prop:=
 match pl with
 | .s d=>match ag st.fr d with
  | .o t es=>q t es a
  | _=>False
 | .c k off=>s7 E st k a fun cs r=>match cs[off]? with
  | some (.o t es)=>q t es r
  | _=>False
theorem dB{E:Env}{st:St}{pl:Pl}{a:AT}{q:TypeId→List AV→AT→Prop}(h:iX E st pl a q):∃ t es r,st.rowAt E.dp pl=some (t,es)∧q t es r:=by
 unfold iX at h
 split at h
 ·split at h
  ·rename_i t es hx
   exact ⟨t,es,a,by simp only [St.rowAt,hx],h⟩
  ·exact h.elim
 ·obtain ⟨cs,r,h1,h2⟩:=nE h
  split at h2
  ·rename_i t es hx
   exact ⟨t,es,r,by simp only [St.rowAt,h1,hx],h2⟩
  ·exact h2.elim
def s8(E:Env)(st:St)(x:AV)(pl:Pl)(a:AT)(q:St→AT→Prop):Prop:=
 match pl with
 | .s d=>q (st.bA d x) a
 | .c k off=>s7 E st k a fun cs r=>nF E st k (cs.set off x) r q
theorem s9{E:Env}{st:St}{x:AV}{pl:Pl}{a:AT}{q:St→AT→Prop}(h:s8 E st x pl a q):∃ st' r,st.putAt E.dp x pl=some st'∧q st' r:=by
 unfold s8 at h
 split at h
 ·exact ⟨_,a,rfl,h⟩
 ·obtain ⟨cs,r,h1,h2⟩:=nE h
  obtain ⟨r',h3⟩:=j7 h2
  exact ⟨_,r',by simp only [St.putAt,h1],h3⟩
def tV(sz:Nat)(es:List AV)(j:Nat)(a:AT)(q:AV→AT→Prop):Prop:=yQ a fun e r=>es[j]? =some e∧dI (e.nc==sz) (q e r)
theorem pA{sz:Nat}{es:List AV}{j:Nat}{a:AT}{q:AV→AT→Prop}(h:tV sz es j a q):∃ e r,es[j]? =some e∧e.nc=sz∧q e r:=by
 obtain ⟨e,r,h1,h2⟩:=pz h
 obtain ⟨h3,h4⟩:=bz h2
 exact ⟨e,r,h1,by simpa using h3,h4⟩
theorem j8{E:Env}(h:E.ro=false)(pl:Pl):pl.eD E=true:=by cases pl<;>simp [Pl.eD,h]
def vC(E:Env)(st:St)(x:AV)(a:AT)(q:TypeId→List AV→AT→Prop):Prop:=
 match x with
 | .l t es=>q t es a
 | .n=>q 0 [] a
 | .o t es=>q t es a
 | .r pl=>iX E st pl a q
 | .v pl lo len=>iX E st pl a fun t es r=>py r fun es' r=>lo+len≤es.length∧(es.drop lo).take len=es'∧q t es' r
 | _=>False
theorem yR{E:Env}{st:St}{x:AV}{a:AT}{q:TypeId→List AV→AT→Prop}(h:vC E st x a q):∃ t es r,st.elems E.dp x=some (t,es)∧q t es r:=by
 unfold vC at h
 split at h
 ·exact ⟨_,_,a,rfl,h⟩
 ·exact ⟨_,_,a,rfl,h⟩
 ·exact ⟨_,_,a,rfl,h⟩
 ·obtain ⟨t,es,r,h1,h2⟩:=dB h
  exact ⟨t,es,r,h1,h2⟩
 ·obtain ⟨t,es,r,h1,h2⟩:=dB h
  obtain ⟨es',r',h3,h4,h5⟩:=gP h2
  subst h4
  exact ⟨t,_,r',by simp only [St.elems,h1,if_pos h3],h5⟩
 ·exact h.elim
def oY(E:Env)(st:St):List AV→AT→(List AV→List TypeId→AT→Prop)→Prop
 | [],a,q=>q [] [] a
 | x::xs,a,q=>(match x with
  | .o t es=>oY E st xs a fun ys ts r=>q (.l t es::ys) ([t]++ts) r
  | .r pl=>iX E st pl a fun t es r=>oY E st xs r fun ys ts r=>q (.l t es::ys) ([t]++ts) r
  | .v pl lo len=>iX E st pl a fun t es r=>py r fun es' r=>lo+len≤es.length∧(es.drop lo).take len=es'∧oY E st xs r fun ys ts r=>q (.l t es'::ys) ([t]++ts) r
  | .w _ t x=>oY E st xs a fun ys ts r=>q (x::ys) ([t]++ts) r
  | x=>dI x.pure (oY E st xs a fun ys ts r=>q (x::ys) ([]++ts) r))
theorem l9{E:Env}{st:St} : ∀ {xs:List AV}{a:AT}{q:List AV→List TypeId→AT→Prop},oY E st xs a q→∃ ys ts r,st.cS E.dp xs=some (ys,ts)∧q ys ts r
 | [],a,q,h=>⟨[],[],a,rfl,h⟩
 | x::xs,a,q,h=>by
  unfold oY at h
  split at h
  ·obtain ⟨ys,ts,r,h1,h2⟩:=l9 h
   exact ⟨_,_,r,by simp [St.cS,St.jo,h1],h2⟩
  ·obtain ⟨t,es,r,h1,h2⟩:=dB h
   obtain ⟨ys,ts,r,h3,h4⟩:=l9 h2
   exact ⟨_,_,r,by simp [St.cS,St.jo,h1,h3],h4⟩
  ·obtain ⟨t,es,r,h1,h2⟩:=dB h
   obtain ⟨es',r,h3,h4,h5⟩:=gP h2
   obtain ⟨ys,ts,r,h6,h7⟩:=l9 h5
   subst h4
   exact ⟨_,_,r,by simp [St.cS,St.jo,h1,h3,h6],h7⟩
  ·obtain ⟨ys,ts,r,h1,h2⟩:=l9 h
   exact ⟨_,_,r,by simp [St.cS,St.jo,h1],h2⟩
  ·rename_i h1 h2 h3 hw
   obtain ⟨h4,h5⟩:=bz h
   obtain ⟨ys,ts,r,h6,h7⟩:=l9 h5
   refine ⟨_,_,r,?_,h7⟩
   have:st.jo E.dp x=some (x,[]):=by
    unfold St.jo
    split
    ·exact (h1 _ _ rfl).elim
    ·exact (h2 _ rfl).elim
    ·exact (h3 _ _ _ rfl).elim
    ·exact (hw _ _ _ rfl).elim
    ·rw [if_pos h4]
   simp [St.cS,this,h6]
abbrev KW:=AV→St→AT→Prop
section
variable (G:nC)(Ω:bR)(E:Env)(st:St)(d:Option Nat)
def ID(sz:Nat)(arr:Option Nat)(x:AV)(xo:aC)(j:Nat)(a:AT)(k:KW):Prop:=
 match arr with
 | some len=>j<len∧(match x with
  | .p kk o=>k (.p kk (o+j*sz)) st a
  | .e y o=>k (.e y (o+j*sz)) st a
  | _=>False)
 | none=>match x with
  | .l _ es=>tV sz es j a fun e r=>k (.e e 0) st r
  | .o _ es=>match xo with
   | .t m=>tV sz es j a fun _ r=>k (.q (.s m) j sz 0) st r
   | .c _=>False
  | .r pl=>iX E st pl a fun _ es r=>tV sz es j r fun _ r=>k (.q pl j sz 0) st r
  | .v pl lo len=>iX E st pl a fun _ es r=>j<len∧lo+len≤es.length∧(tV sz es (lo+j) r fun _ r=>k (.q pl (lo+j) sz 0) st r)
  | _=>False
def IE(op:BinOp)(bl:Bool)(x y:AV)(a:AT)(k:KW):Prop:=
 match x,y with
 | .i ki m,.i ki' n=>if ki=ki' then
   match op with
   | .add=>s6 a fun r a=>ki.wrap (m+n)=r∧k (.i ki r) st a
   | .sub=>s6 a fun r a=>ki.wrap (m - n)=r∧k (.i ki r) st a
   | .mul=>s6 a fun r a=>ki.wrap (m*n)=r∧k (.i ki r) st a
   | .quo=>s6 a fun r a=>n≠0∧ki.wrap (m.tdiv n)=r∧k (.i ki r) st a
   | .rem=>s6 a fun r a=>n≠0∧m.tmod n=r∧k (.i ki r) st a
   | .eql=>k (.b (m==n)) st a
   | .neq=>k (.b (m !=n)) st a
   | .lss=>k (.b (decide (m<n))) st a
   | .leq=>k (.b (decide (m≤n))) st a
   | .gtr=>k (.b (decide (n<m))) st a
   | .geq=>k (.b (decide (n≤m))) st a
   | _=>False
  else False
 | .b m,.b n=>match bl,op with
  | true,.eql=>k (.b (m==n)) st a
  | true,.neq=>k (.b (!(m==n))) st a
  | _,_=>False
 | .s m,.s n=>match op with
  | .add=>Gc a fun r a=>m.length+n.length≤4611686018427387904∧m++n=r∧k (.s r) st a
  | .eql=>k (.b (m==n)) st a
  | .neq=>k (.b (!(m==n))) st a
  | _=>False
 | _,_=>False
def IF(n:Option Nat)(x:AV)(a:AT)(k:KW):Prop:=
 match x with
 | .p kk off=>s7 E st kk a fun cs a=>match pick n off cs with
  | some (.o _ _)=>k (.r (.c kk off)) st a
  | some y=>dI y.copy (k y st a)
  | none=>False
 | .e x off=>match pick n off x.cl with
  | some y=>k y st a
  | none=>False
 | .q pl i sz off=>iX E st pl a fun _ es a=>tV sz es i a fun e a=>match pick n off e.cl with
  | some y=>k y st a
  | none=>False
 | _=>False
def IG(n:Nat)(x y:AV)(yo:aC)(a:AT)(k:KW):Prop:=
 match x with
 | .p kk off=>E.ro=false∧(s7 E st kk a fun cs a=>match y with
  | .o t es=>match yo with
   | .t m=>dI (n==1&&decide (off<cs.length)) (nF E ((st.bA m .u).aN (.c kk off)) kk (cs.set off (.o t es)) a fun st' a=>k .u st' a)
   | .c _=>False
  | .v pl lo len=>pl= .c kk off∧dI (lo==0&&n==1) (iX E st pl a fun t es a=>py a fun es' a=>len≤es.length∧es.take len=es'∧(nF E (st.aN (.c kk off)) kk (cs.set off (.o t es')) a fun st' a=>k .u st' a))
  | y=>y.deep kk.dp=true∧dI (y.copy&&y.nc==n&&y.cl.all AV.one&&decide (off+n≤cs.length)) (nF E st kk (putCells cs off y.cl) a fun st' a=>k .u st' a))
 | .q pl i sz off=>E.ro=false∧(iX E st pl a fun t es a=>yQ a fun e a=>es[i]? =some e∧dI (e.nc==sz&&y.pure&&y.nc==n&&y.cl.all AV.one&&decide (off+n≤sz)) (py a fun es' a=>es.set i (rO e off y.cl)=es'∧(s8 E st (.o t es') pl a fun st' a=>k .u st' a)))
 | _=>False
def uI(x:Option AV)(dflt:Nat)(a:AT)(k:Nat→AT→Prop):Prop:=
 match x with
 | none=>k dflt a
 | some y=>wQ y a k
def IH(t sz:Nat)(x:AV)(lo hi:Option AV)(a:AT)(k:KW):Prop:=
 match x with
 | .s l=>uI lo 0 a fun i a=>uI hi l.length a fun j a=>Gc a fun r a=>t=0∧i≤j∧j≤l.length∧(l.take j).drop i=r∧k (.s r) st a
 | .l t' es=>uI lo 0 a fun i a=>uI hi es.length a fun j a=>py a fun r a=>t≠0∧es.all (fun e=>e.nc==sz)=true∧i≤j∧j≤es.length∧(es.take j).drop i=r∧k (.l t' r) st a
 | .r pl=>iX E st pl a fun t' es a=>uI lo 0 a fun i a=>uI hi es.length a fun j a=>IC a fun m a=>dI (t !=0&&t'==t) (i≤j∧j≤es.length∧j - i=m∧k (.v pl i m) st a)
 | _=>False
def uJ(t:TypeId)(x:aC)(a:AT)(k:List AV→St→AT→Prop):Prop:=
 match x with
 | .c .n=>k [] st a
 | .c _=>False
 | .t m=>match ag st.fr m with
  | .n=>k [] st a
  | .o t' es=>dI (t'==t) (k es (st.bA m .u) a)
  | .r pl=>E.ro=false∧(iX E st pl a fun t' es a=>dI (t'==t) (s8 E st .u pl a fun st' a=>k es st' a))
  | .v pl lo len=>E.ro=false∧dI (lo==0) (iX E st pl a fun t' es a=>py a fun es' a=>len≤es.length∧t'=t∧es.take len=es'∧(s8 E st .u pl a fun st' a=>k es' st' a))
  | _=>False
noncomputable def DP(m:Nat)(f:FuncId)(args:List AV)(a:AT)(k:KW):Prop:=
 match m with
 | 0=>oY E st args a fun ys ts a=>yQ a fun x a=>call G Ω ⟨0,false⟩ f ys (fun _=>none)=some (.ret x,fun _=>none)∧(match ts with
  | []=>dI x.pure (k x st a)
  | ts=>x.pure=true∧x.off ts=true∧k x st a)
 | 1=>oY E st args a fun ys ts a=>yQ a fun x a=>Ω f ys=some x∧(match ts with
  | []=>dI x.pure (k x st a)
  | ts=>x.pure=true∧x.off ts=true∧k x st a)
 | _=>False
noncomputable def Gd(f:FuncId)(args:List AV)(a:AT)(k:KW):Prop:=
 match args.all AV.FC with
 | true=>DP G Ω E st 0 f args a k
 | false=>E.ro=false∧(st.bx.all fun y=>AV.dk E.dp y.2)=true∧dI (args.all AV.copy) (yQ a fun x a=>Ae a fun h2 a=>EI a fun bx a=>Ae a fun h3 a=>
  call G Ω ⟨E.dp+1,false⟩ f args (fun kk=>st.box E.dp kk)=some (.ret x,h2)∧iS E.dp h2 st.bx=bx∧(fun kk:Key=>if kk.dp<E.dp then h2 kk else none)=h3∧
  k x ⟨st.fr.map fun y=>(y.1,if pq y.2=true then .u else y.2),bx,h3⟩ a)
noncomputable def II(f:FuncId)(args:List AV)(a:AT)(k:KW):Prop:=
 (st.bx.all fun y=>AV.dk E.dp y.2)=true∧dI (args.all AV.copy) (yQ a fun x a=>Ae a fun h2 a=>call G Ω ⟨E.dp+1,true⟩ f args (fun kk=>st.box E.dp kk)=some (.ret x,h2)∧dI x.pure (k x st a))
noncomputable def Rd(dd:Nat)(f:FuncId)(args:List AV)(a:AT)(k:KW):Prop:=
 E.ro=false∧(st.bx.all fun y=>AV.dk E.dp y.2)=true∧dI (args.all AV.copy) (py a fun cs a=>Ae a fun h2 a=>EI a fun bx a=>Ae a fun h3 a=>
  call G Ω ⟨E.dp+1,false⟩ f args (fun kk=>st.box E.dp kk)=some (.new cs,h2)∧iS E.dp h2 st.bx=bx∧(fun kk:Key=>if kk.dp<E.dp then h2 kk else none)=h3∧
  vm E.dp ⟨st.fr.map fun y=>(y.1,if pq y.2=true then .u else y.2),bx,h3⟩ dd=true∧
  k (.p ⟨E.dp,dd⟩ 0) ⟨st.fr.map fun y=>(y.1,if pq y.2=true then .u else y.2),(dd,cs)::bx,h3⟩ a)
noncomputable def e4(a:AT)(o:jx)(k:KW):Prop:=
 match o with
 | .mv x=>match st.ev x with
  | .o _ _=>match x with
   | .t n=>k (.r (.s n)) st a
   | .c _=>False
  | y=>k y st a
 | .as x=>match x with
  | .c y=>dI y.pure (k y st a)
  | .t n=>match ag st.fr n with
   | .o t es=>match d with
    | some d=>k (.o t es) ((st.bA n .u).aN (.s d)) a
    | none=>False
   | .v pl lo len=>match d with
    | some d=>vB a fun own a=>match own with
     | true=>pl= .s d∧dI (lo==0) (iX E st pl a fun t es a=>py a fun es' a=>len≤es.length∧es.take len=es'∧k (.o t es') (st.aN (.s d)) a)
     | false=>(pl= .s d→(lo==0)=false)∧k (.v pl lo len) st a
    | none=>False
   | y=>dI (y.copy||tP y) (k y st a)
 | .pk c x y=>match st.ev c with
  | .b z=>vB a fun w a=>z=w∧(match w with
   | true=>dI (st.ev x).copy (k (st.ev x) st a)
   | false=>dI (st.ev y).copy (k (st.ev y) st a))
  | _=>False
 | .bx x=>match d with
  | some d=>((st.ev x).deep E.dp&&(st.fr.all (fun y=>y.2.bL ⟨E.dp,d⟩)&&st.bx.all (fun y=>AV.dL ⟨E.dp,d⟩ y.2)))=true∧
   dI ((st.ev x).copy&&(st.ev x).cl.all AV.one&&(an st.bx d).isNone) (k (.p ⟨E.dp,d⟩ 0) {st with bx:=(d,(st.ev x).cl)::st.bx} a)
  | none=>False
 | .al zs=>match d with
  | some d=>(st.fr.all (fun y=>y.2.bL ⟨E.dp,d⟩)&&st.bx.all (fun y=>AV.dL ⟨E.dp,d⟩ y.2))=true∧dI (an st.bx d).isNone (k (.p ⟨E.dp,d⟩ 0) {st with bx:=(d,zs)::st.bx} a)
  | none=>False
 | .ld n x=>IF E st n (st.ev x) a k
 | .st n x y=>IG E st n (st.ev x) (st.ev y) y a k
 | .fa off x=>match st.ev x with
  | .p kk o=>k (.p kk (o+off)) st a
  | .e y o=>k (.e y (o+off)) st a
  | .q pl i sz o=>iX E st pl a fun _ es a=>i<es.length∧k (.q pl i sz (o+off)) st a
  | _=>False
 | .fd n off x=>match st.ev x with
  | .a cs=>match pick n off cs with
   | some y=>k y st a
   | none=>False
  | _=>False
 | .ia sz arr x i=>wQ (st.ev i) a fun j a=>ID E st sz arr (st.ev x) x j a k
 | .ix x i=>match st.ev x with
  | .s l=>wQ (st.ev i) a fun j a=>s6 a fun c a=>(l[j]?).map (fun z:UInt8=>(z.toNat:Int))=some c∧k (.i .u8 c) st a
  | _=>False
 | .bo op bl x y=>IE st op bl (st.ev x) (st.ev y) a k
 | .no x=>match st.ev x with
  | .b y=>k (.b (!y)) st a
  | _=>False
 | .ng x=>match st.ev x with
  | .i ki n=>s6 a fun r a=>ki.wrap (0 - n)=r∧k (.i ki r) st a
  | _=>False
 | .ae ks ng x y=>match st.ev x,st.ev y with
  | .a xs,.a ys=>vB a fun r a=>eE ks xs ys=some r∧k (.b (if ng then !r else r)) st a
  | _,_=>False
 | .cs x=>match st.ev x with
  | .i _ n=>Gc a fun r a=>(0≤n∧n<128)∧[UInt8.ofNat n.toNat]=r∧k (.s r) st a
  | _=>False
 | .cv ki x=>match st.ev x with
  | .i _ n=>s6 a fun r a=>ki.wrap n=r∧k (.i ki r) st a
  | _=>False
 | .bs t sz es=>match d with
  | some d=>dI ((es.map st.ev).all fun y=>y.pure&&y.cl.all AV.one&&y.nc==sz) (py a fun vs a=>es.map st.ev=vs∧k (.o t vs) (st.aN (.s d)) a)
  | none=>False
 | .bd zs fs=>dI (fs.all fun f=>(st.ev f.2.2).copy&&(st.ev f.2.2).nc==f.2.1&&(st.ev f.2.2).cl.all AV.one&&decide (f.1+f.2.1≤zs.length))
   (k (.a (fs.foldl (fun cs f=>putCells cs f.1 (st.ev f.2.2).cl) zs)) st a)
 | .ms t _ by_ x n=>match d with
  | some d=>wQ (st.ev n) a fun n a=>py a fun es a=>n*by_≤140737488355328∧n≤maxLen∧List.replicate n x=es∧k (.o t es) (st.aN (.s d)) a
  | none=>False
 | .sl t sz x lo hi=>IH E st t sz (st.ev x) (lo.map st.ev) (hi.map st.ev) a k
 | .ex x i=>match st.ev x with
  | .tp vs=>match vs[i]? with
   | some y=>k y st a
   | none=>False
  | _=>False
 | .mf f caps=>dI (AV.jw (caps.map st.ev)) (k (.f f (caps.map st.ev)) st a)
 | .ca m f args=>DP G Ω E st m f (args.map st.ev) a k
 | .cf m x args=>match st.ev x with
  | .f f caps=>DP G Ω E st m f (args.map st.ev++caps) a k
  | _=>False
 | .c2 f args=>Gd G Ω E st f (args.map st.ev) a k
 | .d2 x args=>match st.ev x with
  | .f f caps=>Gd G Ω E st f (args.map st.ev++caps) a k
  | _=>False
 | .c3 f args=>II G Ω E st f (args.map st.ev) a k
 | .d3 x args=>match st.ev x with
  | .f f caps=>II G Ω E st f (args.map st.ev++caps) a k
  | _=>False
 | .cn f args=>match d with
  | some dd=>Rd G Ω E st dd f (args.map st.ev) a k
  | none=>False
 | .cr t f args=>match d with
  | some dd=>dI (AV.bB (args.map st.ev)) (Ω f (args.map st.ev)=some (.o t [])∧k (.o t []) (st.aN (.s dd)) a)
  | none=>False
 | .ln str x=>match st.ev x with
  | .s l=>dI str (s6 a fun n a=>(l.length:Int)=n∧k (.i .i64 n) st a)
  | y=>dI (!str) (vC E st y a fun _ es a=>s6 a fun n a=>(es.length:Int)=n∧k (.i .i64 n) st a)
 | .ap t sz by_ x y=>match d with
  | some d=>vC E st (st.ev y) a fun _ ys a=>uJ E st t x a fun es st' a=>py a fun r a=>
    ys.all (fun e=>e.nc==sz)=true∧(es.length+ys.length)*by_≤140737488355328∧es.length+ys.length≤maxLen∧es++ys=r∧k (.o t r) (st'.aN (.s d)) a
  | none=>False
 | .nc x=>match st.ev x with
  | .p kk o=>k (.p kk o) st a
  | .e y o=>k (.e y o) st a
  | .f g caps=>k (.f g caps) st a
  | _=>False
 | .cw t f args=>match d with
  | some d=>dI (t !=0&&AV.bB (args.map st.ev)) (py a fun ys a=>yQ a fun x a=>AV.CJ t (args.map st.ev)=some ys∧call G Ω ⟨0,false⟩ f ys (fun _=>none)=some (.ret x,fun _=>none)∧(x.pure&&AV.iT t x)=true∧k (.w d t x) st a)
  | none=>False
 | .vi _ _ _=>False
 | .ch _ _ _ _ _=>False
 | .lk _ _ _ _=>False
 | .xw x i=>match st.ev x with
  | .w g t (.tp vs)=>match vs[i]? with
   | some y=>k (vn g t y) st a
   | none=>False
  | _=>False
 | .sw n x y=>match st.ev x with
  | .p kk off=>match st.ev y with
   | .w g t (.a cs)=>match an st.bx kk.d with
    | some bs=>dI (decide (kk.dp=E.dp)&&off==0&&cs.length==n&&decide (n≤bs.length)) (k .u {st with bx:=fU st.bx kk.d (putCells bs 0 (cs.map (.w g t)))} a)
    | none=>False
   | _=>False
  | _=>False
 | .lw n x=>match st.ev x with
  | .p kk off=>s7 E st kk a fun cs a=>dI (decide (off+n≤cs.length)) (match Hx ((cs.drop off).take n) with
   | some y=>dI (y.2.2.all AV.one) (k (.w y.1 y.2.1 (.a y.2.2)) st a)
   | none=>False)
  | _=>False
 | .sp f x=>match st.ev x with
  | .w g t y=>Ω f [y]=some .u∧k .u (st.mF g) a
  | _=>False
end
section
variable {G:nC}{Ω:bR}{E:Env}{st:St}{d:Option Nat}
def Told(o:jx)(k:KW)(G:nC)(Ω:bR)(E:Env)(st:St)(d:Option Nat):Prop:=∃ x st' r,execOp (call G Ω) Ω E st d o=some (x,st')∧k x st' r
theorem Told.mk{o:jx}{k:KW}{x:AV}{st':St}{r:AT}(h:execOp (call G Ω) Ω E st d o=some (x,st'))(hk:k x st' r):Told o k G Ω E st d:=⟨x,st',r,h,hk⟩
theorem qm{sz:Nat}{es:List AV}{j:Nat}{e:AV}{f:AV→AV}(h:es[j]? =some e)(hn:e.nc=sz):elemAt sz st es[j]? f=some (f e,st):=by
 rw [h];simp only [elemAt,Option.bind_some,hn,if_true]
theorem IJ{op:BinOp}{bl:Bool}{x y:aC}{a:AT}{k:KW}(h:IE st op bl (st.ev x) (st.ev y) a k):Told (.bo op bl x y) k G Ω E st d:=by
 unfold IE at h
 split at h
 ·rename_i ki m ki' n hx hy
  split at h
  ·rename_i hki
   subst hki
   split at h
   ·obtain ⟨r,a',h1,h2⟩:=lJ h
    exact .mk (by simp only [execOp,hx,hy,lG,if_true,mE,h1,Option.bind_some]) h2
   ·obtain ⟨r,a',h1,h2⟩:=lJ h
    exact .mk (by simp only [execOp,hx,hy,lG,if_true,mE,h1,Option.bind_some]) h2
   ·obtain ⟨r,a',h1,h2⟩:=lJ h
    exact .mk (by simp only [execOp,hx,hy,lG,if_true,mE,h1,Option.bind_some]) h2
   ·obtain ⟨r,a',h0,h1,h2⟩:=lJ h
    exact .mk (by simp only [execOp,hx,hy,lG,if_true,mE,if_neg h0,h1,Option.bind_some]) h2
   ·obtain ⟨r,a',h0,h1,h2⟩:=lJ h
    exact .mk (by simp only [execOp,hx,hy,lG,if_true,mE,if_neg h0,h1,Option.bind_some]) h2
   ·exact .mk (by simp only [execOp,hx,hy,lG,if_true,mE,Option.bind_some]) h
   ·exact .mk (by simp only [execOp,hx,hy,lG,if_true,mE,Option.bind_some]) h
   ·exact .mk (by simp only [execOp,hx,hy,lG,if_true,mE,Option.bind_some]) h
   ·exact .mk (by simp only [execOp,hx,hy,lG,if_true,mE,Option.bind_some]) h
   ·exact .mk (by simp only [execOp,hx,hy,lG,if_true,mE,Option.bind_some]) h
   ·exact .mk (by simp only [execOp,hx,hy,lG,if_true,mE,Option.bind_some]) h
   ·exact h.elim
  ·exact h.elim
 ·rename_i m n hx hy
  split at h
  ·exact .mk (by simp only [execOp,hx,hy,lG,if_true,Option.bind_some]) h
  ·exact .mk (by simp only [execOp,hx,hy,lG,if_true,Option.bind_some]) h
  ·exact h.elim
 ·rename_i m n hx hy
  split at h
  ·obtain ⟨r,a',h0,h1,h2⟩:=Af h
   exact .mk (by simp only [execOp,hx,hy,lG,if_pos h0,h1,Option.bind_some]) h2
  ·exact .mk (by simp only [execOp,hx,hy,lG,Option.bind_some]) h
  ·exact .mk (by simp only [execOp,hx,hy,lG,Option.bind_some]) h
  ·exact h.elim
 ·exact h.elim
theorem IK{n:Option Nat}{x:aC}{a:AT}{k:KW}(h:IF E st n (st.ev x) a k):Told (.ld n x) k G Ω E st d:=by
 unfold IF at h
 split at h
 ·rename_i kk off hx
  obtain ⟨cs,r,h1,h2⟩:=nE h
  split at h2
  ·rename_i t es hp
   exact .mk (by simp only [execOp,hx,h1,hp,Option.bind_some]) h2
  ·rename_i y hy hp
   obtain ⟨h3,h4⟩:=bz h2
   refine .mk (x:=y) (st':=st) ?_ h4
   simp only [execOp,hx,h1,hp,Option.bind_some,if_pos h3]
  ·exact h2.elim
 ·rename_i y off hx
  split at h
  ·rename_i z hp
   exact .mk (by simp only [execOp,hx,hp,Option.bind_some]) h
  ·exact h.elim
 ·rename_i pl i sz off hx
  obtain ⟨t,es,r,h1,h2⟩:=dB h
  obtain ⟨e,r',h3,h4,h5⟩:=pA h2
  split at h5
  ·rename_i z hp
   exact .mk (by simp only [execOp,hx,h1,h3,hp,h4,if_true,Option.bind_some]) h5
  ·exact h5.elim
 ·exact h.elim
theorem IL{n:Nat}{x y:aC}{a:AT}{k:KW}(h:IG E st n (st.ev x) (st.ev y) y a k):Told (.st n x y) k G Ω E st d:=by
 unfold IG at h
 split at h
 ·rename_i kk off hx
  obtain ⟨hro,h⟩:=h
  obtain ⟨cs,r,h1,h2⟩:=nE h
  split at h2
  ·rename_i t es hy
   split at h2
   ·rename_i m
    obtain ⟨h3,h4⟩:=bz h2
    obtain ⟨r',h5⟩:=j7 h4
    exact .mk (by simp only [execOp,hx,j8 hro,if_true,h1,hy,Option.bind_some,if_pos h3]) h5
   ·exact h2.elim
  ·rename_i pl lo len hy
   obtain ⟨rfl,h2⟩:=h2
   obtain ⟨h3,h4⟩:=bz h2
   obtain ⟨t,es,r1,h5,h6⟩:=dB h4
   obtain ⟨es',r2,h7,rfl,h9⟩:=gP h6
   obtain ⟨r',h10⟩:=j7 h9
   simp only [Bool.and_eq_true] at h3
   exact .mk (by simp only [execOp,hx,j8 hro,if_true,h1,hy,Option.bind_some,h3.1,h3.2,Bool.and_self,decide_true,Bool.true_and,h5,if_pos h7,true_and,and_self]) h10
  ·rename_i y' hy1 hy2
   obtain ⟨h0,h2⟩:=h2
   obtain ⟨h3,h4⟩:=bz h2
   obtain ⟨r',h5⟩:=j7 h4
   have h6:((st.ev y).copy&&(st.ev y).nc==n&&(st.ev y).cl.all AV.one&&(st.ev y).deep kk.dp&&decide (off+n≤cs.length))=true:=by
    simp only [Bool.and_eq_true] at h3 ⊢
    exact ⟨⟨h3.1,h0⟩,h3.2⟩
   refine .mk (x:=.u) (st':=st.az E.dp kk (putCells cs off (st.ev y).cl)) ?_ h5
   simp only [execOp,hx,j8 hro,if_true,h1,Option.bind_some,if_pos h6]
 ·rename_i pl i sz off hx
  obtain ⟨hro,h⟩:=h
  obtain ⟨t,es,r,h1,h2⟩:=dB h
  obtain ⟨e,r1,h3,h4⟩:=pz h2
  obtain ⟨h5,h6⟩:=bz h4
  obtain ⟨es',r2,rfl,h8⟩:=gP h6
  obtain ⟨st',r3,h9,h10⟩:=s9 h8
  exact .mk (by simp only [execOp,hx,j8 hro,if_true,h1,h3,Option.bind_some,if_pos h5,h9]) h10
 ·exact h.elim
theorem pd{x:Option aC}{dflt:Nat}{a:AT}{k:Nat→AT→Prop}(h:uI (x.map st.ev) dflt a k):∃ j r,iU st x dflt=some j∧k j r:=by
 cases x with
 | none=>exact ⟨dflt,a,rfl,h⟩
 | some y=>
  obtain ⟨j,r,h1,h2⟩:=tU (x:=st.ev y) h
  exact ⟨j,r,h1,h2⟩
theorem IM{t sz:Nat}{x:aC}{lo hi:Option aC}{a:AT}{k:KW}(h:IH E st t sz (st.ev x) (lo.map st.ev) (hi.map st.ev) a k):Told (.sl t sz x lo hi) k G Ω E st d:=by
 unfold IH at h
 split at h
 ·rename_i l hx
  obtain ⟨i,r1,h1,h2⟩:=pd h
  obtain ⟨j,r2,h3,h4⟩:=pd h2
  obtain ⟨z,r3,rfl,h5,h6,rfl,h8⟩:=Af h4
  exact .mk (by simp [execOp,hx,h1,h3,h5,h6]) h8
 ·rename_i t' es hx
  obtain ⟨i,r1,h1,h2⟩:=pd h
  obtain ⟨j,r2,h3,h4⟩:=pd h2
  obtain ⟨z,r3,h0,hall,h5,h6,rfl,h8⟩:=gP h4
  exact .mk (by simp only [execOp,hx,h1,h3,Option.bind_some,hall,bne_iff_ne,ne_eq,h0,not_false_eq_true,h5,h6,decide_true,Bool.and_true,Bool.and_self,if_true]) h8
 ·rename_i pl hx
  obtain ⟨t',es,r0,hr,h⟩:=dB h
  obtain ⟨i,r1,h1,h2⟩:=pd h
  obtain ⟨j,r2,h3,h4⟩:=pd h2
  obtain ⟨m,r3,h5⟩:=DO h4
  obtain ⟨h6,h7,h8,rfl,h10⟩:=bz h5
  exact .mk (by simp only [execOp,hx,hr,h1,h3,Option.bind_some,h6,h7,h8,decide_true,Bool.and_self,if_true]) h10
 ·exact h.elim
theorem BJ{t:TypeId}{x:aC}{a:AT}{k:List AV→St→AT→Prop}(h:uJ E st t x a k):∃ es st' r,consume E st t x=some (es,st')∧k es st' r:=by
 unfold uJ at h
 split at h
 ·exact ⟨_,_,a,rfl,h⟩
 ·exact h.elim
 ·rename_i m
  split at h
  ·rename_i hx
   exact ⟨_,_,a,by simp only [consume,hx],h⟩
  ·rename_i t' es hx
   obtain ⟨h1,h2⟩:=bz h
   exact ⟨_,_,a,by simp only [consume,hx,if_pos (beq_iff_eq.1 h1)],h2⟩
  ·rename_i pl hx
   obtain ⟨hro,h⟩:=h
   obtain ⟨t',es,r,h1,h2⟩:=dB h
   obtain ⟨h3,h4⟩:=bz h2
   obtain ⟨st',r',h5,h6⟩:=s9 h4
   exact ⟨_,_,r',by simp only [consume,hx,j8 hro,if_true,h1,Option.bind_some,if_pos (beq_iff_eq.1 h3),h5],h6⟩
  ·rename_i pl lo len hx
   obtain ⟨hro,h⟩:=h
   obtain ⟨h0,h⟩:=bz h
   obtain ⟨t',es,r,h1,h2⟩:=dB h
   obtain ⟨es',r2,h3,h4,rfl,h6⟩:=gP h2
   obtain ⟨st',r',h7,h8⟩:=s9 h6
   exact ⟨_,_,r',by simp only [consume,hx,j8 hro,h0,Bool.and_self,if_true,h1,Option.bind_some,if_pos (And.intro h3 h4),h7],h8⟩
  ·exact h.elim
theorem IN{sz:Nat}{arr:Option Nat}{x i:aC}{j:Nat}{a:AT}{k:KW}(hj:jy (st.ev i)=some j)(h:ID E st sz arr (st.ev x) x j a k):Told (.ia sz arr x i) k G Ω E st d:=by
 unfold ID at h
 split at h
 ·rename_i len
  obtain ⟨h1,h⟩:=h
  split at h
  ·rename_i kk o hx
   exact .mk (by simp only [execOp,hj,Option.bind_some,if_pos h1,hx]) h
  ·rename_i y o hx
   exact .mk (by simp only [execOp,hj,Option.bind_some,if_pos h1,hx]) h
  ·exact h.elim
 ·split at h
  ·rename_i t es hx
   obtain ⟨e,r,h1,h2,h3⟩:=pA h
   exact .mk (by simp only [execOp,hj,Option.bind_some,hx];exact qm h1 h2) h3
  ·rename_i t es hx
   split at h
   ·rename_i m
    obtain ⟨e,r,h1,h2,h3⟩:=pA h
    exact .mk (by simp only [execOp,hj,Option.bind_some,hx];exact qm h1 h2) h3
   ·exact h.elim
  ·rename_i pl hx
   obtain ⟨t,es,r0,h0,h⟩:=dB h
   obtain ⟨e,r,h1,h2,h3⟩:=pA h
   exact .mk (by simp only [execOp,hj,Option.bind_some,hx,h0];exact qm h1 h2) h3
  ·rename_i pl lo len hx
   obtain ⟨t,es,r0,h0,h4,h5,h⟩:=dB h
   obtain ⟨e,r,h1,h2,h3⟩:=pA h
   exact .mk (by simp only [execOp,hj,Option.bind_some,hx,if_pos h4,h0,if_pos h5];exact qm h1 h2) h3
  ·exact h.elim
theorem Ag{m:Nat}{f:FuncId}{args:List AV}{a:AT}{k:KW}(h:DP G Ω E st m f args a k):∃ x r,ed (call G Ω) Ω E st m f args=some (x,st)∧k x st r:=by
 unfold DP at h
 split at h
 ·obtain ⟨ys,ts,r,h1,h2⟩:=l9 h
  obtain ⟨x,r1,h3,h4⟩:=pz h2
  have h5:∃ b,(x.pure&&(ts.isEmpty||x.off ts))=true∧b=r1∧k x st b:=by
   split at h4
   ·obtain ⟨h5,h6⟩:=bz h4
    exact ⟨r1,by simp [h5],rfl,h6⟩
   ·exact ⟨r1,by simp [h4.1,h4.2.1],rfl,h4.2.2⟩
  obtain ⟨b,h6,rfl,h7⟩:=h5
  exact ⟨x,b,by simp only [ed,h1,Option.bind_some,h3,h6,if_true],h7⟩
 ·obtain ⟨ys,ts,r,h1,h2⟩:=l9 h
  obtain ⟨x,r1,h3,h4⟩:=pz h2
  have h5:∃ b,(x.pure&&(ts.isEmpty||x.off ts))=true∧b=r1∧k x st b:=by
   split at h4
   ·obtain ⟨h5,h6⟩:=bz h4
    exact ⟨r1,by simp [h5],rfl,h6⟩
   ·exact ⟨r1,by simp [h4.1,h4.2.1],rfl,h4.2.2⟩
  obtain ⟨b,h6,rfl,h7⟩:=h5
  exact ⟨x,b,by simp only [ed,h1,Option.bind_some,h3,h6,if_true],h7⟩
 ·exact h.elim
theorem DQ{f:FuncId}{args:List AV}{a:AT}{k:KW}(h:Gd G Ω E st f args a k):∃ x st' r,iz (call G Ω) Ω E st f args=some (x,st')∧k x st' r:=by
 unfold Gd at h
 split at h
 ·rename_i hc
  obtain ⟨x,r,h1,h2⟩:=Ag h
  exact ⟨x,st,r,by rw [iz,if_pos hc];exact h1,h2⟩
 ·rename_i hc
  obtain ⟨h1,h2,h⟩:=h
  obtain ⟨h3,h⟩:=bz h
  obtain ⟨x,r1,h⟩:=pz h
  obtain ⟨hp2,r2,h⟩:=rf h
  obtain ⟨bx,r3,h⟩:=Ci h
  obtain ⟨hp3,r4,h4,rfl,rfl,h5⟩:=rf h
  refine ⟨x,st.back E.dp hp2,r4,?_,h5⟩
  rw [iz,if_neg (by rw [hc];simp)]
  simp only [h1,h2,h3,Bool.not_false,Bool.and_self,if_true,h4,Option.bind_some]
theorem DR{f:FuncId}{args:List AV}{a:AT}{k:KW}(h:II G Ω E st f args a k):∃ x r,iA (call G Ω) E st f args=some (x,st)∧k x st r:=by
 obtain ⟨h1,h⟩:=h
 obtain ⟨h2,h⟩:=bz h
 obtain ⟨x,r1,h⟩:=pz h
 obtain ⟨hp2,r2,h3,h⟩:=rf h
 obtain ⟨h4,h5⟩:=bz h
 exact ⟨x,r2,by simp only [iA,h1,h2,Bool.and_self,if_true,h3,Option.bind_some,h4],h5⟩
theorem Ah{o:jx}{a:AT}{k:KW}(h:e4 G Ω E st d a o k):Told o k G Ω E st d:=by
 cases o with
 | mv x=>
  simp only [e4] at h
  split at h
  ·rename_i t es hx
   split at h
   ·exact .mk (by simp only [execOp,hx]) h
   ·exact h.elim
  ·rename_i hx
   refine .mk (x:=st.ev x) (st':=st) ?_ h
   simp only [execOp]
 | as x=>
  cases x with
  | c y=>
   obtain ⟨h1,h2⟩:=bz h
   exact .mk (by simp only [execOp,h1,if_true]) h2
  | t n=>
   simp only [e4] at h
   split at h
   ·rename_i t es hx
    split at h
    ·exact .mk (by simp only [execOp,hx,Option.bind_some]) h
    ·exact h.elim
   ·rename_i pl lo len hx
    split at h
    ·rename_i dd
     obtain ⟨own,r,h⟩:=ov h
     cases own with
     | true=>
      obtain ⟨rfl,h⟩:=h
      obtain ⟨h1,h⟩:=bz h
      obtain ⟨t,es,r1,h2,h⟩:=dB h
      obtain ⟨es',r2,h3,rfl,h5⟩:=gP h
      exact .mk (by simp only [execOp,hx,Option.bind_some,h1,decide_true,Bool.and_self,and_self,if_true,h2,if_pos h3]) h5
     | false=>
      obtain ⟨h1,h2⟩:=h
      refine .mk (x:=.v pl lo len) (st':=st) ?_ h2
      simp only [execOp,hx,Option.bind_some]
      rw [if_neg]
      simp only [Bool.and_eq_true,decide_eq_true_eq]
      rintro ⟨h3,h4⟩
      rw [h1 h3] at h4
      cases h4
    ·exact h.elim
   ·rename_i hx1 hx2
    obtain ⟨h1,h2⟩:=bz h
    refine .mk (x:=ag st.fr n) (st':=st) ?_ h2
    simp only [execOp,if_pos h1]
 | pk c x y=>
  simp only [e4] at h
  split at h
  ·rename_i z hc
   obtain ⟨w,r,rfl,h⟩:=ov h
   cases z with
   | true=>
    obtain ⟨h1,h2⟩:=bz h
    exact .mk (by simp only [execOp,hc,oq,Option.bind_some,if_true,h1]) h2
   | false=>
    obtain ⟨h1,h2⟩:=bz h
    exact .mk (by simp only [execOp,hc,oq,Option.bind_some,Bool.false_eq_true,if_false,h1,if_true]) h2
  ·exact h.elim
 | bx x=>
  simp only [e4] at h
  split at h
  ·rename_i dd
   obtain ⟨h1,h⟩:=h
   obtain ⟨h2,h3⟩:=bz h
   simp only [Bool.and_eq_true] at h1 h2
   exact .mk (by simp only [execOp,Option.bind_some,h1.1,h1.2.1,h1.2.2,h2.1.1,h2.1.2,h2.2,Bool.and_self,if_true]) h3
  ·exact h.elim
 | al zs=>
  simp only [e4] at h
  split at h
  ·rename_i dd
   obtain ⟨h1,h⟩:=h
   obtain ⟨h2,h3⟩:=bz h
   simp only [Bool.and_eq_true] at h1
   exact .mk (by simp only [execOp,Option.bind_some,h1.1,h1.2,h2,Bool.and_self,if_true]) h3
  ·exact h.elim
 | ld n x=>exact IK h
 | st n x y=>exact IL h
 | fa off x=>
  simp only [e4] at h
  split at h
  ·rename_i hx;exact .mk (by simp only [execOp,hx]) h
  ·rename_i hx;exact .mk (by simp only [execOp,hx]) h
  ·rename_i hx
   obtain ⟨t,es,r,h1,h2,h3⟩:=dB h
   exact .mk (by simp only [execOp,hx,h1,Option.bind_some,if_pos h2]) h3
  ·exact h.elim
 | fd n off x=>
  simp only [e4] at h
  split at h
  ·rename_i cs hx
   split at h
   ·rename_i y hy
    exact .mk (by simp only [execOp,hx,hy,Option.bind_some]) h
   ·exact h.elim
  ·exact h.elim
 | ia sz arr x i=>
  obtain ⟨j,r,h1,h2⟩:=tU (x:=st.ev i) h
  exact IN h1 h2
 | ix x i=>
  simp only [e4] at h
  split at h
  ·rename_i l hx
   obtain ⟨j,r,h1,h2⟩:=tU h
   obtain ⟨c,r2,h3,h4⟩:=lJ h2
   cases hl:l[j]? with
   | none=>rw [hl] at h3;cases h3
   | some z=>
    rw [hl] at h3
    obtain rfl:=Option.some.inj h3
    exact .mk (by simp only [execOp,hx,h1,Option.bind_some,hl]) h4
  ·exact h.elim
 | bo op bl x y=>exact IJ h
 | no x=>
  simp only [e4] at h
  split at h
  ·rename_i y hx
   exact .mk (by simp only [execOp,hx,oq,Option.bind_some]) h
  ·exact h.elim
 | ng x=>
  simp only [e4] at h
  split at h
  ·rename_i hx
   obtain ⟨r,a',h1,h2⟩:=lJ h
   exact .mk (by simp only [execOp,hx,h1]) h2
  ·exact h.elim
 | ae ks ng x y=>
  simp only [e4] at h
  split at h
  ·rename_i hx hy
   obtain ⟨r,a',h1,h2⟩:=ov h
   exact .mk (by simp only [execOp,hx,hy,h1,Option.bind_some]) h2
  ·exact h.elim
 | cs x=>
  simp only [e4] at h
  split at h
  ·rename_i hx
   obtain ⟨r,a',h1,h2,h3⟩:=Af h
   exact .mk (by simp only [execOp,hx,if_pos h1,h2]) h3
  ·exact h.elim
 | cv ki x=>
  simp only [e4] at h
  split at h
  ·rename_i hx
   obtain ⟨r,a',h1,h2⟩:=lJ h
   exact .mk (by simp only [execOp,hx,h1]) h2
  ·exact h.elim
 | bs t sz es=>
  simp only [e4] at h
  split at h
  ·obtain ⟨h1,h2⟩:=bz h
   obtain ⟨vs,r,rfl,h3⟩:=gP h2
   exact .mk (by simp only [execOp,Option.bind_some,h1,if_true]) h3
  ·exact h.elim
 | bd zs fs=>
  obtain ⟨h1,h2⟩:=bz h
  exact .mk (by simp only [execOp,h1,if_true]) h2
 | ms t sz by_ x n=>
  simp only [e4] at h
  split at h
  ·obtain ⟨m,r,h1,h2⟩:=tU h
   obtain ⟨es,r2,h3,h4,rfl,h6⟩:=gP h2
   exact .mk (by simp only [execOp,Option.bind_some,h1,h3,h4,decide_true,Bool.and_self,if_true]) h6
  ·exact h.elim
 | sl t sz x lo hi=>exact IM h
 | ex x i=>
  simp only [e4] at h
  split at h
  ·rename_i vs hx
   split at h
   ·rename_i y hy
    exact .mk (by simp only [execOp,hx,hy,Option.bind_some]) h
   ·exact h.elim
  ·exact h.elim
 | mf f caps=>
  obtain ⟨h1,h2⟩:=bz h
  exact .mk (by simp only [execOp,h1,if_true]) h2
 | ca m f args=>
  obtain ⟨x,r,h1,h2⟩:=Ag h
  exact .mk h1 h2
 | cf m x args=>
  simp only [e4] at h
  split at h
  ·rename_i f caps hx
   obtain ⟨x,r,h1,h2⟩:=Ag h
   exact .mk (by simp only [execOp,hx];exact h1) h2
  ·exact h.elim
 | c2 f args=>
  obtain ⟨x,st',r,h1,h2⟩:=DQ h
  exact .mk h1 h2
 | d2 x args=>
  simp only [e4] at h
  split at h
  ·rename_i f caps hx
   obtain ⟨x,st',r,h1,h2⟩:=DQ h
   exact .mk (by simp only [execOp,hx];exact h1) h2
  ·exact h.elim
 | c3 f args=>
  obtain ⟨x,r,h1,h2⟩:=DR h
  exact .mk h1 h2
 | d3 x args=>
  simp only [e4] at h
  split at h
  ·rename_i f caps hx
   obtain ⟨x,r,h1,h2⟩:=DR h
   exact .mk (by simp only [execOp,hx];exact h1) h2
  ·exact h.elim
 | cn f args=>
  simp only [e4] at h
  split at h
  ·rename_i dd
   obtain ⟨h1,h2,h⟩:=h
   obtain ⟨h3,h⟩:=bz h
   obtain ⟨cs,r1,h⟩:=gP h
   obtain ⟨hp2,r2,h⟩:=rf h
   obtain ⟨bx,r3,h⟩:=Ci h
   obtain ⟨hp3,r4,h4,rfl,rfl,h5,h6⟩:=rf h
   refine .mk (x:=.p ⟨E.dp,dd⟩ 0) (st':={(st.back E.dp hp2) with bx:=(dd,cs)::(st.back E.dp hp2).bx}) ?_ h6
   have h5':vm E.dp (st.back E.dp hp2) dd=true:=h5
   simp only [execOp,Option.bind_some,ra,h1,h2,h3,Bool.not_false,Bool.and_self,if_true,h4,h5']
  ·exact h.elim
 | cr t f args=>
  simp only [e4] at h
  split at h
  ·rename_i dd
   obtain ⟨h1,h2,h3⟩:=bz h
   exact .mk (by simp only [execOp,Option.bind_some,wI,h1,if_true,h2]) h3
  ·exact h.elim
 | ln str x=>
  simp only [e4] at h
  split at h
  ·rename_i l hx
   obtain ⟨h1,h2⟩:=bz h
   obtain ⟨n,r,h3,h4⟩:=lJ h2
   exact .mk (by simp only [execOp,hx,h1,if_true,h3]) h4
  ·rename_i hx
   obtain ⟨h1,h2⟩:=bz h
   obtain ⟨t,es,r,h3,h4⟩:=yR h2
   obtain ⟨n,r,h5,h6⟩:=lJ h4
   have hs:str=false:=by simpa using h1
   refine .mk (x:=.i .i64 n) (st':=st) ?_ h6
   simp only [execOp,hs,h3,Bool.false_eq_true,if_false,Option.bind_some,h5]
 | ap t sz by_ x y=>
  simp only [e4] at h
  split at h
  ·obtain ⟨t',ys,r,h1,h2⟩:=yR h
   obtain ⟨es,st',r2,h3,h4⟩:=BJ h2
   obtain ⟨z,r3,h5,h6,h7,rfl,h9⟩:=gP h4
   exact .mk (by simp only [execOp,Option.bind_some,h1,h3,h5,h6,h7,decide_true,Bool.and_self,if_true]) h9
  ·exact h.elim
 | nc x=>
  simp only [e4] at h
  split at h
  ·rename_i hx;exact .mk (by simp only [execOp,hx]) h
  ·rename_i hx;exact .mk (by simp only [execOp,hx]) h
  ·rename_i hx;exact .mk (by simp only [execOp,hx]) h
  ·exact h.elim
 | cw t f args=>
  simp only [e4] at h
  split at h
  ·rename_i dd
   obtain ⟨h1,h⟩:=bz h
   obtain ⟨ys,r,h⟩:=gP h
   obtain ⟨x,r,h2,h3,h4,h5⟩:=pz h
   exact .mk (by simp only [execOp,Option.bind_some,wJ,if_pos h1,h2,h3,h4,if_true]) h5
  ·exact h.elim
 | vi g f args=>exact (show False from h).elim
 | ch f args sl dl ow=>exact (show False from h).elim
 | lk n x y lv=>exact (show False from h).elim
 | xw x i=>
  simp only [e4] at h
  split at h
  ·rename_i g t vs hx
   split at h
   ·rename_i y hy
    exact .mk (by simp only [execOp,hx,hy,Option.bind_some]) h
   ·exact h.elim
  ·exact h.elim
 | sw n x y=>
  simp only [e4] at h
  split at h
  ·rename_i kk off hx
   split at h
   ·rename_i g t cs hy
    split at h
    ·rename_i bs hb
     obtain ⟨h1,h⟩:=bz h
     simp only [Bool.and_eq_true,decide_eq_true_eq,beq_iff_eq] at h1
     obtain ⟨⟨⟨h2,h3⟩,h4⟩,h5⟩:=h1
     exact .mk (by simp only [execOp,hx,hy,hb,h2,h3,h4,h5,and_self,if_true,Option.bind_some,St.az]) h
    ·exact h.elim
   ·exact h.elim
  ·exact h.elim
 | lw n x=>
  simp only [e4] at h
  split at h
  ·rename_i kk off hx
   obtain ⟨cs,r,h1,h⟩:=nE h
   obtain ⟨h2,h⟩:=bz h
   split at h
   ·rename_i y hy
    obtain ⟨h3,h⟩:=bz h
    exact .mk (by simp only [execOp,hx,h1,Option.bind_some,if_pos (of_decide_eq_true h2),hy,h3,if_true]) h
   ·exact h.elim
  ·exact h.elim
 | sp f x=>
  simp only [e4] at h
  split at h
  ·rename_i g t y hx
   exact .mk (by simp only [execOp,hx,h.1,Option.bind_some]) h.2
  ·exact h.elim
end
section
variable (G:nC)(Ω:bR)(E:Env)
abbrev KS:=St→AT→Prop
noncomputable def gW(st:St)(g:bU)(a:AT)(q:KS):Prop:=
 match g.g with
 | none=>e4 G Ω E st g.d a g.o fun x st' a=>q (put st' g.d (db g.fz x)) a
 | some (j,want)=>match ag st.fr j with
  | .b x=>vB a fun y a=>(x==want)=y∧(match y with
   | true=>e4 G Ω E st g.d a g.o fun x st' a=>q (put st' g.d (db g.fz x)) a
   | false=>q (put st g.d .sk) a)
  | .sk=>q (put st g.d .sk) a
  | _=>False
def uK(dp:Nat)(p:bh)(v:St)(q:Prop):Prop:=
 match p.p.o with
 | .st _ x y=>(match FD (v.ev y) with
  | false=>q
  | true=>match v.ev x with
   | .p k _=>k.dp=dp∧dI (p.vb==[k.d]&&(match y with
    | .t m=>p.cs==[m]
    | .c _=>false)) q
   | _=>False)
 | .ap _ _ _ x _=>dI (wK (v.ev x)==(p.cs.length==2)) q
 | _=>q
theorem BK{dp:Nat}{p:bh}{v:St}{q:Prop}(h:uK dp p v q):iB dp p v=true∧q:=by
 unfold uK at h
 unfold iB
 split at h
 ·rename_i n x y ho
  simp only [ho]
  split at h
  ·rename_i hy
   exact ⟨by rw [hy];rfl,h⟩
  ·rename_i hy
   split at h
   ·rename_i k off hx
    obtain ⟨h1,h2⟩:=h
    obtain ⟨h3,h4⟩:=bz h2
    refine ⟨?_,h4⟩
    rw [hy,hx]
    simp only [Bool.and_eq_true] at h3
    simp only [h1,decide_true,h3.1,Bool.not_true,Bool.false_or,Bool.true_and]
    exact h3.2
   ·exact h.elim
 ·rename_i ho
  simp only [ho]
  exact bz h
 ·rename_i hne hna
  refine ⟨?_,h⟩
  split
  ·rename_i n x y ho
   exact (hne _ _ _ ho).elim
  ·rename_i ho
   exact (hna _ _ _ _ _ ho).elim
  ·rfl
noncomputable def CP(st:St)(p:bh)(a:AT)(q:KS):Prop:=
 dI (eP (view p st) p.p.o) (uK E.dp p (view p st) (e4 G Ω E (view p st) p.p.d a p.p.o fun x v' a=>(vo E.dp p.nk x&&okB E.dp p.nb x)=true∧q ((effect p (x,v')).app st) a))
noncomputable def dW(st:St)(p:bh)(a:AT)(q:KS):Prop:=
 match p.lt with
 | true=>match p.p.g with
  | none=>CP G Ω E st p a q
  | some (j,want)=>match ag st.fr j with
   | .b x=>vB a fun y a=>(x==want)=y∧(match y with
    | true=>CP G Ω E st p a q
    | false=>q ((⟨eF p.p.d .sk,[],[],none⟩:aX).app st) a)
   | .sk=>q ((⟨eF p.p.d .sk,[],[],none⟩:aX).app st) a
   | _=>False
 | false=>gW G Ω E st p.p a q
noncomputable def dx(kf kb:List Nat)(gs:List bU)(st:St):Option St:=(gD (call G Ω) Ω E st gs).map fun s=>s.a7 kf kb
noncomputable def wR(kf kb:List Nat)(gs:List bh)(st:St):Option St:=(lW (call G Ω) Ω E st gs).map fun s=>s.a7 kf kb
def IP(d:Option Nat)(m n:Nat)(d':Option Nat):Bool:=(match d,d' with
 | some x,some y=>x==y
 | none,none=>true
 | _,_=>false)&&m==n
noncomputable def ta(kf kb:List Nat):St→List bU→AT→KS→Prop
 | st,[],a,q=>q (st.a7 kf kb) a
 | st,g::gs,a,q=>match a with
  | .jb d n b=>(match IP g.d gs.length n d with
   | true=>eg b fun b=>match b with
    | .co (.jn X) r=>dx G Ω E kf kb (g::gs) st=some X∧q X r
    | _=>False
   | false=>gW G Ω E st g (.jb d n b) fun st a=>ta kf kb st gs a q)
  | a=>gW G Ω E st g a fun st a=>ta kf kb st gs a q
noncomputable def tc(kf kb:List Nat):St→List bh→AT→KS→Prop
 | st,[],a,q=>q (st.a7 kf kb) a
 | st,p::ps,a,q=>match a with
  | .jb d n b=>(match IP p.p.d ps.length n d with
   | true=>eg b fun b=>match b with
    | .co (.jn X) r=>wR G Ω E kf kb (p::ps) st=some X∧q X r
    | _=>False
   | false=>dW G Ω E st p (.jb d n b) fun st a=>tc kf kb st ps a q)
  | a=>dW G Ω E st p a fun st a=>tc kf kb st ps a q
def rT(st:St)(p:qf)(a:AT)(q:KS):Prop:=
 match p with
 | .own d t=>match ag st.fr d with
  | .n=>q ((st.aN (.s d)).bA d (.o t [])) a
  | .o _ _=>q st a
  | _=>False
 | .fz d=>match ag st.fr d with
  | .o t es=>q (st.bA d (.l t es)) a
  | _=>False
 | .ownC d off t=>match ag st.fr d with
  | .p k o=>E.ro=false∧(s7 E st k a fun cs a=>match cs[o+off]? with
   | some .n=>nF E (st.aN (.c k (o+off))) k (cs.set (o+off) (.o t [])) a q
   | some (.o _ _)=>q st a
   | _=>False)
  | _=>False
 | .fzC d off=>match ag st.fr d with
  | .p k o=>E.ro=false∧(s7 E st k a fun cs a=>match cs[o+off]? with
   | some (.o t es)=>nF E st k (cs.set (o+off) (.l t es)) a q
   | _=>False)
  | _=>False
 | .fzB d agg=>match ag st.fr d with
  | .p k 0=>k.dp=E.dp∧(match an st.bx k.d with
   | some cs=>dI (AV.bB cs) (match agg with
    | true=>q {(st.bA d (.e (.a cs) 0)) with bx:=st.bx.filter fun y=>y.1 !=k.d} a
    | false=>match cs with
     | [c]=>q {(st.bA d (.e c 0)) with bx:=st.bx.filter fun y=>y.1 !=k.d} a
     | _=>False)
   | none=>False)
  | _=>False
def CQ:St→List qf→AT→KS→Prop
 | st,[],a,q=>q st a
 | st,p::ps,a,q=>rT E st p a fun st a=>CQ st ps a q
abbrev KX:=aE→St→AT→Prop
noncomputable def cW:AC→St→AT→KX→Prop
 | .sk,st,a,q=>q .nrm st a
 | .rg pre ops kf kb,st,a,q=>CQ E st pre a fun st a=>ta G Ω E kf kb st ops a fun st a=>q .nrm st a
 | .dg pre mks ops kf kb,st,a,q=>CQ E st pre a fun st a=>(mks.all (pr E.dp st)&&ops.all (vp E.dp st))=true∧(tc G Ω E kf kb st ops a fun st a=>q .nrm st a)
 | .sq x y,st,a,q=>cW x st a fun e st a=>match e with
  | .nrm=>cW y st a q
  | e=>q e st a
 | .ite c x y,st,a,q=>match st.ev c with
  | .b z=>vB a fun w a=>z=w∧(match w with
   | true=>cW x st a q
   | false=>cW y st a q)
  | _=>False
 | .bl id x,st,a,q=>cW x st a fun e st a=>match e with
  | .ex id'=>if id'=id then q .nrm st a else q (.ex id') st a
  | e=>q e st a
 | .lp (.kp kf kb x),st,a,q=>EJ a fun e st' a=>run G Ω E (.lp (.kp kf kb x)) (st.a7 kf kb)=some (e,st')∧q e st' a
 | .lp x,st,a,q=>EJ a fun e st' a=>run G Ω E (.lp x) st=some (e,st')∧q e st' a
 | .ex id,st,a,q=>q (.ex id) st a
 | .rt,st,a,q=>q .ret st a
 | .bad,_,_,_=>False
 | .kp kf kb x,st,a,q=>match a with
  | .fb b=>eg b fun b=>match b with
   | .co (.fr e st') r=>run G Ω E x (st.a7 kf kb)=some (e,st')∧q e st' r
   | _=>False
  | _=>cW x (st.a7 kf kb) a q
def vD(st:St)(x:AV)(a:AT)(q:AV→AT→Prop):Prop:=
 match x with
 | .o t es=>q (.l t es) a
 | .r (.s d)=>iX E st (.s d) a fun t es a=>q (.l t es) a
 | .r (.c k off)=>k.dp=E.dp∧(iX E st (.c k off) a fun t es a=>q (.l t es) a)
 | .v (.s d) lo len=>iX E st (.s d) a fun t es a=>py a fun es' a=>lo+len≤es.length∧(es.drop lo).take len=es'∧q (.l t es') a
 | .v (.c _ _) _ _=>False
 | .q _ _ _ _=>False
 | .w _ _ _=>False
 | x=>q x a
def CS(st:St):List AV→AT→(List AV→AT→Prop)→Prop
 | [],a,q=>q [] a
 | x::xs,a,q=>vD E st x a fun y a=>CS st xs a fun ys a=>q (y::ys) a
def CT(st:St)(z:RV)(a:AT)(q:AV→AT→Prop):Prop:=
 match z with
 | .t n=>vD E st (ag st.fr n) a q
 | .c n sz=>match ag st.fr n with
  | .p k off=>k.dp=E.dp∧(match an st.bx k.d with
   | some cs=>match pick sz off cs with
    | some (.a ds)=>CS E st ds a fun ds a=>q (.a ds) a
    | some y=>vD E st y a q
    | none=>False
   | none=>False)
  | _=>False
def EK(st:St):List RV→AT→(List AV→Prop)→Prop
 | [],_,q=>q []
 | z::zs,a,q=>CT E st z a fun y a=>EK st zs a fun ys=>q (y::ys)
noncomputable def Ai(fn:bb)(ys:List AV)(hp:HP)(a:AT)(q:List AV→HP→Prop):Prop:=
 cW G Ω E fn.code ⟨iW 0 ys,[],hp⟩ a fun e st _=>match e with
  | .ex _=>False
  | _=>match fn.res with
   | [.t n]=>match ag st.fr n with
    | .p k 0=>k.dp=E.dp∧(match an st.bx k.d with
     | some cs=>(cs.all pc)=true∧q cs st.hp
     | none=>False)
    | _=>False
   | _=>False
noncomputable def CU(fn:bb)(ys:List AV)(hp:HP)(a:AT)(q:AV→HP→Prop):Prop:=
 cW G Ω E fn.code ⟨iW 0 ys,[],hp⟩ a fun e st a=>match e with
  | .ex _=>False
  | _=>EK E st fn.res a fun xs=>dI (AV.bB xs) (q (Ch xs) st.hp)
end
section
variable {G:nC}{Ω:bR}{E:Env}
theorem Ge{st:St}{g:bU}{a:AT}{q:KS}(h:gW G Ω E st g a q):∃ st' r,dZ (call G Ω) Ω E st g=some st'∧q st' r:=by
 unfold gW at h
 split at h
 ·rename_i hg
  obtain ⟨x,st',r,h1,h2⟩:=Ah h
  exact ⟨_,r,by simp only [dZ,hg,h1,Option.bind_some],h2⟩
 ·rename_i j want hg
  split at h
  ·rename_i x hx
   obtain ⟨y,r,rfl,h⟩:=ov h
   split at h
   ·rename_i hy
    obtain ⟨x',st',r,h1,h2⟩:=Ah h
    exact ⟨_,r,by simp only [dZ,hg,hx,sX,Option.bind_some,hy,if_true,h1],h2⟩
   ·rename_i hy
    exact ⟨_,r,by simp only [dZ,hg,hx,sX,Option.bind_some,hy,Bool.false_eq_true,if_false],h⟩
  ·rename_i hx
   exact ⟨_,a,by simp only [dZ,hg,hx,sX,Option.bind_some,Bool.false_eq_true,if_false],h⟩
  ·exact h.elim
theorem Aj{st:St}{p:bh}{a:AT}{q:KS}(h:CP G Ω E st p a q):∃ P r,fi (call G Ω) Ω E p (view p st)=some P∧q (P.app st) r:=by
 obtain ⟨h0,h⟩:=bz h
 obtain ⟨h1,h⟩:=BK h
 obtain ⟨x,st',r,h2,h3,h4⟩:=Ah h
 exact ⟨_,r,by simp only [fi,h0,h1,Bool.and_self,if_true,h2,Option.bind_some,h3],h4⟩
theorem Nu{st:St}{p:bh}{a:AT}{q:KS}(h:dW G Ω E st p a q):∃ st' r,bT (call G Ω) Ω E st p=some st'∧q st' r:=by
 unfold dW at h
 split at h
 ·rename_i hlt
  split at h
  ·rename_i hg
   obtain ⟨P,r,h1,h2⟩:=Aj h
   exact ⟨_,r,by simp only [bT,hlt,if_true,bS,hg,h1,Option.bind_some],h2⟩
  ·rename_i j want hg
   split at h
   ·rename_i x hx
    obtain ⟨y,r,rfl,h⟩:=ov h
    split at h
    ·rename_i hy
     obtain ⟨P,r,h1,h2⟩:=Aj h
     exact ⟨_,r,by simp only [bT,hlt,if_true,bS,hg,hx,sX,hy,h1,Option.bind_some],h2⟩
    ·rename_i hy
     exact ⟨_,r,by simp only [bT,hlt,if_true,bS,hg,hx,sX,hy,Option.bind_some,Bool.false_eq_true,if_false],h⟩
   ·rename_i hx
    exact ⟨_,a,by simp only [bT,hlt,if_true,bS,hg,hx,sX,Option.bind_some,Bool.false_eq_true,if_false],h⟩
   ·exact h.elim
 ·rename_i hlt
  obtain ⟨st',r,h1,h2⟩:=Ge h
  exact ⟨st',r,by simp only [bT,hlt,Bool.false_eq_true,if_false,h1],h2⟩
theorem wS{kf kb:List Nat} : ∀ {gs:List bU}{st:St}{a:AT}{q:KS},ta G Ω E kf kb st gs a q→∃ st' r,dx G Ω E kf kb gs st=some st'∧q st' r
 | [],st,a,q,h=>⟨_,a,rfl,h⟩
 | g::gs,st,a,q,h=>by
  have key:∀ a',(gW G Ω E st g a' fun st a=>ta G Ω E kf kb st gs a q)→∃ st' r,dx G Ω E kf kb (g::gs) st=some st'∧q st' r:=by
   intro a' h
   obtain ⟨st1,r1,h1,h2⟩:=Ge h
   obtain ⟨st2,r2,h3,h4⟩:=wS h2
   exact ⟨st2,r2,by simp only [dx,gD,h1,Option.bind_some];exact h3,h4⟩
  unfold ta at h
  split at h
  ·split at h
   ·obtain ⟨b,h⟩:=cM h
    split at h
    ·exact ⟨_,_,h.1,h.2⟩
    ·exact h.elim
   ·exact key _ h
  ·exact key _ h
theorem wT{kf kb:List Nat} : ∀ {gs:List bh}{st:St}{a:AT}{q:KS},tc G Ω E kf kb st gs a q→∃ st' r,wR G Ω E kf kb gs st=some st'∧q st' r
 | [],st,a,q,h=>⟨_,a,rfl,h⟩
 | g::gs,st,a,q,h=>by
  have key:∀ a',(dW G Ω E st g a' fun st a=>tc G Ω E kf kb st gs a q)→∃ st' r,wR G Ω E kf kb (g::gs) st=some st'∧q st' r:=by
   intro a' h
   obtain ⟨st1,r1,h1,h2⟩:=Nu h
   obtain ⟨st2,r2,h3,h4⟩:=wT h2
   exact ⟨st2,r2,by simp only [wR,lW,h1,Option.bind_some];exact h3,h4⟩
  unfold tc at h
  split at h
  ·split at h
   ·obtain ⟨b,h⟩:=cM h
    split at h
    ·exact ⟨_,_,h.1,h.2⟩
    ·exact h.elim
   ·exact key _ h
  ·exact key _ h
theorem EL{st:St}{p:qf}{a:AT}{q:KS}(h:rT E st p a q):∃ st' r,ef E st p=some st'∧q st' r:=by
 cases p with
 | own d t=>
  simp only [rT] at h
  split at h
  ·rename_i hx;exact ⟨_,a,by simp only [ef,hx],h⟩
  ·rename_i hx;exact ⟨_,a,by simp only [ef,hx],h⟩
  ·exact h.elim
 | fz d=>
  simp only [rT] at h
  split at h
  ·rename_i hx;exact ⟨_,a,by simp only [ef,hx],h⟩
  ·exact h.elim
 | ownC d off t=>
  simp only [rT] at h
  split at h
  ·rename_i k o hx
   obtain ⟨hro,h⟩:=h
   obtain ⟨cs,r,h1,h2⟩:=nE h
   split at h2
   ·rename_i hc
    obtain ⟨r',h3⟩:=j7 h2
    exact ⟨_,r',by simp only [ef,hx,j8 hro,if_true,h1,Option.bind_some,hc],h3⟩
   ·rename_i hc
    exact ⟨_,r,by simp only [ef,hx,j8 hro,if_true,h1,Option.bind_some,hc],h2⟩
   ·exact h2.elim
  ·exact h.elim
 | fzC d off=>
  simp only [rT] at h
  split at h
  ·rename_i k o hx
   obtain ⟨hro,h⟩:=h
   obtain ⟨cs,r,h1,h2⟩:=nE h
   split at h2
   ·rename_i t es hc
    obtain ⟨r',h3⟩:=j7 h2
    exact ⟨_,r',by simp only [ef,hx,j8 hro,if_true,h1,Option.bind_some,hc],h3⟩
   ·exact h2.elim
  ·exact h.elim
 | fzB d agg=>
  simp only [rT] at h
  split at h
  ·rename_i k hx
   obtain ⟨h1,h⟩:=h
   split at h
   ·rename_i cs hb
    obtain ⟨h2,h⟩:=bz h
    split at h
    ·exact ⟨_,a,by simp only [ef,hx,if_pos h1,hb,Option.bind_some,if_pos h2,if_true],h⟩
    ·split at h
     ·exact ⟨_,a,by simp only [ef,hx,if_pos h1,hb,Option.bind_some,if_pos h2,Bool.false_eq_true,if_false],h⟩
     ·exact h.elim
   ·exact h.elim
  ·exact h.elim
theorem wU:∀ {ps:List qf}{st:St}{a:AT}{q:KS},CQ E st ps a q→∃ st' r,oX E st ps=some st'∧q st' r
 | [],st,a,q,h=>⟨st,a,rfl,h⟩
 | p::ps,st,a,q,h=>by
  obtain ⟨st1,r1,h1,h2⟩:=EL h
  obtain ⟨st2,r2,h3,h4⟩:=wU h2
  exact ⟨st2,r2,by simp only [oX,h1,Option.bind_some,h3],h4⟩
theorem n7:∀ (c:AC){st:St}{a:AT}{q:KX},cW G Ω E c st a q→∃ e st' r,run G Ω E c st=some (e,st')∧q e st' r
 | .sk,st,a,q,h=>⟨_,_,a,DG E st,by simpa only [cW] using h⟩
 | .rg pre ops kf kb,st,a,q,h=>by
  simp only [cW] at h
  obtain ⟨st1,r1,h1,h2⟩:=wU h
  obtain ⟨st2,r2,h3,h4⟩:=wS h2
  obtain ⟨st3,h5,rfl⟩:=Option.map_eq_some_iff.1 h3
  exact ⟨_,_,r2,by rw [DJ,h1,Option.bind_some,h5];rfl,h4⟩
 | .dg pre mks ops kf kb,st,a,q,h=>by
  simp only [cW] at h
  obtain ⟨st1,r1,h1,h0,h2⟩:=wU h
  obtain ⟨st2,r2,h3,h4⟩:=wT h2
  obtain ⟨st3,h5,rfl⟩:=Option.map_eq_some_iff.1 h3
  exact ⟨_,_,r2,by rw [DK,h1,Option.bind_some,if_pos h0,h5];rfl,h4⟩
 | .sq x y,st,a,q,h=>by
  simp only [cW] at h
  obtain ⟨e,st1,r1,h1,h2⟩:=n7 x h
  cases e with
  | nrm=>
   obtain ⟨e,st2,r2,h3,h4⟩:=n7 y h2
   exact ⟨e,st2,r2,by rw [vv,h1];exact h3,h4⟩
  | ex id=>exact ⟨_,_,r1,by rw [vv,h1];rfl,h2⟩
  | ret=>exact ⟨_,_,r1,by rw [vv,h1];rfl,h2⟩
 | .ite c x y,st,a,q,h=>by
  simp only [cW] at h
  split at h
  ·rename_i z hc
   obtain ⟨w,r,rfl,h⟩:=ov h
   cases z with
   | true=>
    obtain ⟨e,st1,r1,h1,h2⟩:=n7 x h
    exact ⟨e,st1,r1,by rw [run_ite,hc];exact h1,h2⟩
   | false=>
    obtain ⟨e,st1,r1,h1,h2⟩:=n7 y h
    exact ⟨e,st1,r1,by rw [run_ite,hc];exact h1,h2⟩
  ·exact h.elim
 | .bl id x,st,a,q,h=>by
  simp only [cW] at h
  obtain ⟨e,st1,r1,h1,h2⟩:=n7 x h
  cases e with
  | nrm=>exact ⟨_,_,r1,by rw [s5,h1];rfl,h2⟩
  | ret=>exact ⟨_,_,r1,by rw [s5,h1];rfl,h2⟩
  | ex id'=>
   simp only at h2
   split at h2
   ·rename_i hi
    exact ⟨_,_,r1,by rw [s5,h1];simp only [Option.bind_some,inBlock,hi,if_true],h2⟩
   ·rename_i hi
    exact ⟨_,_,r1,by rw [s5,h1];simp only [Option.bind_some,inBlock,hi,if_false],h2⟩
 | .lp x,st,a,q,h=>by
  cases x with
  | kp kf kb x=>
   simp only [cW] at h
   obtain ⟨e,st1,r1,h1,h2⟩:=Cj h
   refine ⟨e,st1,r1,?_,h2⟩
   exact (wO G Ω E ⟨kf,kb,x⟩ st).trans h1
  | _=>
   simp only [cW] at h
   obtain ⟨e,st1,r1,h1,h2⟩:=Cj h
   exact ⟨e,st1,r1,h1,h2⟩
 | .ex id,st,a,q,h=>⟨_,_,a,DH E st id,by simpa only [cW] using h⟩
 | .rt,st,a,q,h=>⟨_,_,a,DI E st,by simpa only [cW] using h⟩
 | .kp kf kb x,st,a,q,h=>by
  unfold cW at h
  split at h
  ·obtain ⟨b,h⟩:=cM h
   split at h
   ·exact ⟨_,_,_,by rw [rb];exact h.1,h.2⟩
   ·exact h.elim
  ·obtain ⟨e,st1,r1,h1,h2⟩:=n7 x h
   exact ⟨e,st1,r1,by rw [rb];exact h1,h2⟩
theorem uL{st:St}{x:AV}{a:AT}{q:AV→AT→Prop}(h:vD E st x a q):∃ y r,st.iV E.dp x=some y∧q y r:=by
 unfold vD at h
 split at h
 ·exact ⟨_,a,rfl,h⟩
 ·obtain ⟨t,es,r,h1,h2⟩:=dB h
  exact ⟨_,r,by simp only [St.iV,h1,Option.bind_some],h2⟩
 ·obtain ⟨h0,h⟩:=h
  obtain ⟨t,es,r,h1,h2⟩:=dB h
  exact ⟨_,r,by simp only [St.iV,if_pos h0,h1,Option.bind_some],h2⟩
 ·obtain ⟨t,es,r,h1,h2⟩:=dB h
  obtain ⟨es',r,h3,rfl,h5⟩:=gP h2
  exact ⟨_,r,by simp only [St.iV,h1,Option.bind_some,if_pos h3],h5⟩
 ·exact h.elim
 ·exact h.elim
 ·exact h.elim
 ·rename_i h1 h2 h3 h4 h5 h6 h7
  refine ⟨x,a,?_,h⟩
  unfold St.iV
  split
  ·exact (h1 _ _ rfl).elim
  ·exact (h2 _ rfl).elim
  ·exact (h3 _ _ rfl).elim
  ·exact (h4 _ _ _ rfl).elim
  ·exact (h7 _ _ _ rfl).elim
  ·rfl
theorem Ak{st:St} : ∀ {xs:List AV}{a:AT}{q:List AV→AT→Prop},CS E st xs a q→∃ ys r,st.wL E.dp xs=some ys∧q ys r
 | [],a,q,h=>⟨[],a,rfl,h⟩
 | x::xs,a,q,h=>by
  obtain ⟨y,r,h1,h2⟩:=uL h
  obtain ⟨ys,r2,h3,h4⟩:=Ak h2
  exact ⟨_,r2,by simp only [St.wL,h1,h3,Option.bind_some],h4⟩
theorem EM{st:St}{z:RV}{a:AT}{q:AV→AT→Prop}(h:CT E st z a q):∃ y r,st.qL E z=some y∧q y r:=by
 cases z with
 | t n=>exact uL h
 | c n sz=>
  simp only [CT] at h
  split at h
  ·rename_i k off hx
   obtain ⟨h0,h⟩:=h
   split at h
   ·rename_i cs hb
    split at h
    ·rename_i ds hp
     obtain ⟨ys,r,h1,h2⟩:=Ak h
     exact ⟨_,r,by simp only [St.qL,hx,if_pos h0,hb,hp,h1,Option.bind_some],h2⟩
    ·rename_i y hy hp
     obtain ⟨z,r,h1,h2⟩:=uL h
     refine ⟨z,r,?_,h2⟩
     simp only [St.qL,hx,if_pos h0,hb,hp,Option.bind_some,h1]
    ·exact h.elim
   ·exact h.elim
  ·exact h.elim
theorem wV{st:St} : ∀ {zs:List RV}{a:AT}{q:List AV→Prop},EK E st zs a q→∃ xs,st.lH E zs=some xs∧q xs
 | [],a,q,h=>⟨[],rfl,h⟩
 | z::zs,a,q,h=>by
  obtain ⟨y,r,h1,h2⟩:=EM h
  obtain ⟨ys,h3,h4⟩:=wV h2
  exact ⟨_,by simp only [St.lH,h1,h3,Option.bind_some],h4⟩
theorem EN{f:FuncId}{fn:bb}{ys:List AV}{hp:HP}{q:AV→HP→Prop}(hG:G f=some fn)(a:AT)(h:CU G Ω E fn ys hp a q):∃ x hp',call G Ω E f ys hp=some (.ret x,hp')∧q x hp':=by
 obtain ⟨e,st,r,h1,h2⟩:=n7 fn.code h
 cases e with
 | ex id=>exact h2.elim
 | nrm=>
  obtain ⟨xs,h3,h4⟩:=wV h2
  obtain ⟨h5,h6⟩:=bz h4
  exact ⟨_,_,by rw [tS,hG,Option.bind_some,h1];simp only [Option.bind_some,St.end_,St.result,h3,h5,if_true],h6⟩
 | ret=>
  obtain ⟨xs,h3,h4⟩:=wV h2
  obtain ⟨h5,h6⟩:=bz h4
  exact ⟨_,_,by rw [tS,hG,Option.bind_some,h1];simp only [Option.bind_some,St.end_,St.result,h3,h5,if_true],h6⟩
theorem IQ{st:St}{rs:List RV}{n:Nat}{k:Key}{cs:List AV}(h1:rs=[.t n])(h2:ag st.fr n= .p k 0)(h3:k.dp=E.dp)(h4:an st.bx k.d=some cs)(h5:cs.all pc=true):st.end_ E rs=some (.new cs):=by
 subst h1
 have hr:st.result E [.t n]=none:=by simp [St.result,St.lH,St.qL,h2,St.iV,AV.bB,AV.pure]
 simp only [St.end_,hr,St.tR,h2,if_pos h3,h4,Option.bind_some,h5,if_true,Option.map_some]
theorem DS{f:FuncId}{fn:bb}{ys:List AV}{hp:HP}{q:List AV→HP→Prop}(hG:G f=some fn)(a:AT)(h:Ai G Ω E fn ys hp a q):∃ cs hp',call G Ω E f ys hp=some (.new cs,hp')∧q cs hp':=by
 obtain ⟨e,st,r,h1,h2⟩:=n7 fn.code h
 have key:∀ {P:Prop},(match fn.res with
   | [.t n]=>match ag st.fr n with
    | .p k 0=>k.dp=E.dp∧(match an st.bx k.d with
     | some cs=>(cs.all pc)=true∧q cs st.hp
     | none=>False)
    | _=>False
   | _=>False)→(∀ cs,st.end_ E fn.res=some (.new cs)→q cs st.hp→P)→P:=by
  intro P h2 hP
  split at h2
  ·rename_i n hres
   split at h2
   ·rename_i k hk
    obtain ⟨h3,h4⟩:=h2
    split at h4
    ·rename_i cs hb
     exact hP cs (IQ hres hk h3 hb h4.1) h4.2
    ·exact h4.elim
   ·exact h2.elim
  ·exact h2.elim
 cases e with
 | ex id=>exact h2.elim
 | nrm=>exact key h2 fun cs h3 h4=>⟨cs,_,by rw [tS,hG,Option.bind_some,h1];simp only [Option.bind_some,h3],h4⟩
 | ret=>exact key h2 fun cs h3 h4=>⟨cs,_,by rw [tS,hG,Option.bind_some,h1];simp only [Option.bind_some,h3],h4⟩
theorem IS{R:Type}{f:FuncId}{fn:bb}{ys:List AV}{hp:HP}{Y:R→aW×HP}{r:R}{T:Prop}(hG:G f=some fn)(a:AT)(h:T)(he:T=Ai G Ω E fn ys hp a fun y h=>(aW.new y,h)=Y r):call G Ω E f ys hp=some (Y r):=by
 obtain ⟨y,h',h1,h2⟩:=DS hG a (he▸h)
 rw [←h2];exact h1
theorem Nv{R:Type}{f:FuncId}{fn:bb}{ys:List AV}{hp:HP}{Y:R→aW×HP}{r:R}{T:Prop}(hG:G f=some fn)(a:AT)(h:T)(he:T=CU G Ω E fn ys hp a fun y h=>(aW.ret y,h)=Y r):call G Ω E f ys hp=some (Y r):=by
 obtain ⟨y,h',h1,h2⟩:=EN hG a (he▸h)
 rw [←h2];exact h1
theorem runT{R:Type}{c:AC}{st:St}{Y:R→aE×St}{r:R}{T:Prop}(a:AT)(h:T)(he:T=cW G Ω E c st a fun e s _=>(e,s)=Y r):run G Ω E c st=some (Y r):=by
 obtain ⟨e,s,_,h1,h2⟩:=n7 c (he▸h)
 rw [←h2];exact h1
theorem Nw{R:Type}{kf kb:List Nat}{gs:List bU}{st:St}{Y:R→St}{r:R}{T:Prop}(a:AT)(h:T)(he:T=ta G Ω E kf kb st gs a fun s _=>s=Y r):dx G Ω E kf kb gs st=some (Y r):=by
 obtain ⟨s,_,h1,h2⟩:=wS (he▸h)
 rw [←h2];exact h1
theorem Nx{R:Type}{kf kb:List Nat}{gs:List bh}{st:St}{Y:R→St}{r:R}{T:Prop}(a:AT)(h:T)(he:T=tc G Ω E kf kb st gs a fun s _=>s=Y r):wR G Ω E kf kb gs st=some (Y r):=by
 obtain ⟨s,_,h1,h2⟩:=wT (he▸h)
 rw [←h2];exact h1
def Gf(kf kb:List Nat):aE→St→St⊕(aE×St)
 | .nrm,s=>.inl (s.a7 kf kb)
 | e,s=>.inr (e,s)
theorem ai{a b:Prop}(x:a)(y:b):a∧b:=⟨x,y⟩
theorem tt:true=true:=rfl
theorem gt:(true==true)=true:=rfl
theorem gf:(false==true)=false:=rfl
theorem ht:(true==false)=false:=rfl
theorem hf:(false==false)=true:=rfl
abbrev W(w:List AV)(n:Nat):AV:=w.getD n .u
abbrev bt(r:AT):AT:=.co (.b true) r
abbrev bf(r:AT):AT:=.co (.b false) r
abbrev ao(x:PF)(r:AT):AT:=.co x r
theorem ff:false=false:=rfl
end
end Go.Proofs.YtphgedfhcncobaaGreatDoor.A
