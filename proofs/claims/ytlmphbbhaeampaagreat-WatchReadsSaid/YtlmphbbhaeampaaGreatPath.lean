/- Paths: what is told of a run (which way it goes, what an element is, what a call answers) gives what must be shown, and nothing else; all else is reckoned. -/
import Derived.Test.YtlmphbbhaeampaaGreatAbs3
import Derived.Test.YtlmphbbhaeampaaGreatAbsQ
import Derived.KernelRfl
set_option linter.all false
namespace Go.Proofs.YtlmphbbhaeampaaGreat.A
open Go
inductive Ou where
 | b (x:Bool)
 | n (x:Nat)
 | i (x:Int)
 | v (x:AV)
 | l (es:List AV)
 | s (x:List UInt8)
 | h (hp:HP)
 | bx (bs:List (Nat×List AV))
 | lp (e:bh) (st:St)
 | fr (e:bh) (st:St)
 | jn (st:St)
inductive AT:Type 1 where
 | nil
 | no
 | co (x:Ou) (r:AT)
 | or (a b:AT)
 | ex {α:Type} (f:α→AT)
 | jb (d:Option Nat) (n:Nat) (b:AT)
 | fb (b:AT)
def jU:AT→(AT→Prop)→Prop
 | .or a b,k=>jU a k∨jU b k
 | .ex f,k=>∃ x,jU (f x) k
 | .no,_=>False
 | a,k=>k a
theorem fN{k:AT→Prop} : ∀ {a:AT},jU a k→∃ b,k b
 | .or a b,h=>by
  rw [jU] at h
  rcases h with h | h
  ·exact fN h
  ·exact fN h
 | .ex f,h=>by
  rw [jU] at h
  obtain ⟨x,h⟩:=h
  exact fN h
 | .no,h=>h.elim
 | .nil,h=>⟨_,h⟩
 | .co _ _,h=>⟨_,h⟩
 | .jb _ _ _,h=>⟨_,h⟩
 | .fb _,h=>⟨_,h⟩
def Hc(a:AT)(k:Bool→AT→Prop):Prop:=jU a fun a=>match a with
 | .co (.b x) r=>k x r
 | _=>False
def tkN(a:AT)(k:Nat→AT→Prop):Prop:=jU a fun a=>match a with
 | .co (.n x) r=>k x r
 | _=>False
def Fy(a:AT)(k:Int→AT→Prop):Prop:=jU a fun a=>match a with
 | .co (.i x) r=>k x r
 | _=>False
def Lw(a:AT)(k:AV→AT→Prop):Prop:=jU a fun a=>match a with
 | .co (.v x) r=>k x r
 | _=>False
def yl(a:AT)(k:List AV→AT→Prop):Prop:=jU a fun a=>match a with
 | .co (.l x) r=>k x r
 | _=>False
def tkS(a:AT)(k:List UInt8→AT→Prop):Prop:=jU a fun a=>match a with
 | .co (.s x) r=>k x r
 | _=>False
def JR(a:AT)(k:HP→AT→Prop):Prop:=jU a fun a=>match a with
 | .co (.h x) r=>k x r
 | _=>False
def Tt(a:AT)(k:List (Nat×List AV)→AT→Prop):Prop:=jU a fun a=>match a with
 | .co (.bx x) r=>k x r
 | _=>False
def PJ(a:AT)(k:bh→St→AT→Prop):Prop:=jU a fun a=>match a with
 | .co (.lp e st) r=>k e st r
 | _=>False
def iO(b:Bool)(p:Prop):Prop:=match b with
 | true=>p
 | false=>False
variable {a:AT}
theorem wC{k:Bool→AT→Prop}(h:Hc a k):∃ x r,k x r:=by
 obtain ⟨b,h⟩:=fN h
 grind
theorem Rx{k:Nat→AT→Prop}(h:tkN a k):∃ x r,k x r:=by
 obtain ⟨b,h⟩:=fN h
 grind
theorem tH{k:Int→AT→Prop}(h:Fy a k):∃ x r,k x r:=by
 obtain ⟨b,h⟩:=fN h
 grind
theorem A2{k:AV→AT→Prop}(h:Lw a k):∃ x r,k x r:=by
 obtain ⟨b,h⟩:=fN h
 grind
theorem nu{k:List AV→AT→Prop}(h:yl a k):∃ x r,k x r:=by
 obtain ⟨b,h⟩:=fN h
 grind
theorem Ry{k:List UInt8→AT→Prop}(h:tkS a k):∃ x r,k x r:=by
 obtain ⟨b,h⟩:=fN h
 grind
theorem ym{k:HP→AT→Prop}(h:JR a k):∃ x r,k x r:=by
 obtain ⟨b,h⟩:=fN h
 grind
theorem Ov{k:List (Nat×List AV)→AT→Prop}(h:Tt a k):∃ x r,k x r:=by
 obtain ⟨b,h⟩:=fN h
 grind
theorem IA{k:bh→St→AT→Prop}(h:PJ a k):∃ e st r,k e st r:=by
 obtain ⟨b,h⟩:=fN h
 grind
theorem c9{b:Bool}{p:Prop}(h:iO b p):b=true∧p:=by
 cases b with
 | true=>exact ⟨rfl,h⟩
 | false=>exact h.elim
def Lx(x:AV)(a:AT)(k:Nat→AT→Prop):Prop:=match x with
 | .i _ n=>tkN a fun j r=>n=(j:Int)∧k j r
 | _=>False
theorem IB{x:AV}{k:Nat→AT→Prop}(h:Lx x a k):∃ j r,rf x=some j∧k j r:=by
 unfold Lx at h;grind [Rx,rf]
def FN(E:Env)(st:St)(k:Key)(a:AT)(q:List AV→AT→Prop):Prop:=
 Hc a fun own r=>match own with
  | true=>k.dp=E.dp∧(match aZ st.bx k.d with
   | some cs=>q cs r
   | none=>False)
  | false=>yl r fun cs r=>k.dp≠E.dp∧st.hp k=some cs∧q cs r
theorem xY{E:Env}{st:St}{k:Key}{q:List AV→AT→Prop}(h:FN E st k a q):∃ cs r,st.box E.dp k=some cs∧q cs r:=by
 obtain ⟨own,r,h⟩:=wC h
 grind [St.box,nu]
def uY(E:Env)(st:St)(k:Key)(cs:List AV)(a:AT)(q:St→AT→Prop):Prop:=
 Hc a fun own r=>match own with
  | true=>k.dp=E.dp∧q {st with bx:=mS st.bx k.d cs} r
  | false=>JR r fun hp r=>k.dp≠E.dp∧aq st.hp k cs=hp∧q {st with hp:=hp} r
variable {cs:List AV}
theorem rj{E:Env}{st:St}{k:Key}{q:St→AT→Prop}(h:uY E st k cs a q):∃ r,q (st.aW E.dp k cs) r:=by
 obtain ⟨own,r,h⟩:=wC h
 grind [St.aW,ym]
def pg(E:Env)(st:St)(pl:Pl)(a:AT)(q:TypeId→List AV→AT→Prop):Prop:=
 match pl with
 | .s d=>match az st.fr d with
  | .o t es=>q t es a
  | _=>False
 | .c k off=>FN E st k a fun cs r=>match cs[off]? with
  | some (.o t es)=>q t es r
  | _=>False
variable {pl:Pl}
theorem kO{E:Env}{st:St}{q:TypeId→List AV→AT→Prop}(h:pg E st pl a q):∃ t es r,st.rowAt E.dp pl=some (t,es)∧q t es r:=by
 unfold pg at h
 split at h
 ·grind [St.rowAt]
 grind [xY,St.rowAt]
def DM(E:Env)(st:St)(x:AV)(pl:Pl)(a:AT)(q:St→AT→Prop):Prop:=
 match pl with
 | .s d=>q (st.cS d x) a
 | .c k off=>FN E st k a fun cs r=>uY E st k (cs.set off x) r q
theorem DN{E:Env}{st:St}{x:AV}{q:St→AT→Prop}(h:DM E st x pl a q):∃ st' r,st.putAt E.dp x pl=some st'∧q st' r:=by
 unfold DM at h
 split at h
 ·exact ⟨_,a,rfl,h⟩
 ·obtain ⟨cs,r,h1,h2⟩:=xY h
  obtain ⟨r',h3⟩:=rj h2
  grind [St.putAt]
def EM(sz:Nat)(es:List AV)(j:Nat)(a:AT)(q:AV→AT→Prop):Prop:=Lw a fun e r=>es[j]? =some e∧iO (e.nc==sz) (q e r)
variable {sz:Nat}{es:List AV}{j:Nat}
theorem yn{q:AV→AT→Prop}(h:EM sz es j a q):∃ e r,es[j]? =some e∧e.nc=sz∧q e r:=by
 obtain ⟨e,r,h1,h2⟩:=A2 h
 grind [c9]
theorem xZ{E:Env}(h:E.ro=false)(pl:Pl):pl.iI E=true:=by cases pl<;>simp [Pl.iI,h]
def Tu(E:Env):Pl→Prop
 | .s _=>(false:Bool)=false
 | .c _ _=>E.ro=false
theorem Ow{E:Env} : ∀ {pl:Pl},Tu E pl→pl.iI E=true
 | .s _,_=>rfl
 | .c _ _,h=>xZ h _
def Hd(E:Env)(st:St)(x:AV)(a:AT)(q:TypeId→List AV→AT→Prop):Prop:=
 match x with
 | .l t es=>q t es a
 | .n=>q 0 [] a
 | .o t es=>q t es a
 | .r pl=>pg E st pl a q
 | .v pl lo len=>pg E st pl a fun t es r=>yl r fun C r=>lo+len≤es.length∧(es.drop lo).take len=C∧q t C r
 | _=>False
theorem JS{E:Env}{st:St}{x:AV}{q:TypeId→List AV→AT→Prop}(h:Hd E st x a q):∃ t es r,st.elems E.dp x=some (t,es)∧q t es r:=by
 unfold Hd at h
 grind [kO,nu,St.elems]
def xz(E:Env)(st:St):List AV→AT→(List AV→List TypeId→AT→Prop)→Prop
 | [],a,q=>q [] [] a
 | x::xs,a,q=>(match x with
  | .o t es=>xz E st xs a fun ys ts r=>q (.l t es::ys) ([t]++ts) r
  | .r pl=>pg E st pl a fun t es r=>xz E st xs r fun ys ts r=>q (.l t es::ys) ([t]++ts) r
  | .v pl lo len=>pg E st pl a fun t es r=>yl r fun C r=>lo+len≤es.length∧(es.drop lo).take len=C∧xz E st xs r fun ys ts r=>q (.l t C::ys) ([t]++ts) r
  | .w _ t x=>xz E st xs a fun ys ts r=>q (x::ys) ([t]++ts) r
  | x=>iO x.pure (xz E st xs a fun ys ts r=>q (x::ys) ([]++ts) r))
theorem sW{E:Env}{st:St} : ∀ {xs:List AV}{a:AT}{q:List AV→List TypeId→AT→Prop},xz E st xs a q→∃ ys ts r,st.eX E.dp xs=some (ys,ts)∧q ys ts r
 | [],a,q,h=>⟨[],[],a,rfl,h⟩
 | x::xs,a,q,h=>by
  unfold xz at h
  split at h
  ·obtain ⟨ys,ts,r,h1,h2⟩:=sW h
   grind [St.eX,St.jE]
  ·obtain ⟨t,es,r,h1,h2⟩:=kO h
   obtain ⟨ys,ts,r,h3,h4⟩:=sW h2
   grind [St.eX,St.jE]
  ·obtain ⟨t,es,r,h1,h2⟩:=kO h
   obtain ⟨C,r,h3,h4,h5⟩:=nu h2
   obtain ⟨ys,ts,r,h6,h7⟩:=sW h5
   grind [St.eX,St.jE]
  ·obtain ⟨ys,ts,r,h1,h2⟩:=sW h
   grind [St.eX,St.jE]
  ·rename_i h1 h2 h3 hw
   obtain ⟨h4,h5⟩:=c9 h
   obtain ⟨ys,ts,r,h6,h7⟩:=sW h5
   refine ⟨_,_,r,?_,h7⟩
   have:st.jE E.dp x=some (x,[]):=by
    unfold St.jE
    grind [AV.pure]
   simp [St.eX,this,h6]
abbrev KW:=AV→St→AT→Prop
section
variable (G:qG)(Ω:dK)(E:Env)(st:St)(d:Option Nat)
def iaW(sz:Nat)(arr:Option Nat)(x:AV)(xo:bz)(j:Nat)(a:AT)(k:KW):Prop:=
 match arr with
 | some len=>j<len∧(match x with
  | .p kk o=>k (.p kk (o+j*sz)) st a
  | .e y o=>k (.e y (o+j*sz)) st a
  | _=>False)
 | none=>match x with
  | .l _ es=>EM sz es j a fun e r=>k (.e e 0) st r
  | .o _ es=>match xo with
   | .t m=>EM sz es j a fun _ r=>k (.q (.s m) j sz 0) st r
   | .c _=>False
  | .r pl=>pg E st pl a fun _ es r=>EM sz es j r fun _ r=>k (.q pl j sz 0) st r
  | .v pl lo len=>pg E st pl a fun _ es r=>j<len∧lo+len≤es.length∧(EM sz es (lo+j) r fun _ r=>k (.q pl (lo+j) sz 0) st r)
  | _=>False
def Tv(E:Env)(k:Key):Prop:=match E.ro with
 | false=>false=false
 | true=>k.dp=E.dp
theorem PK{E:Env}{k:Key}(h:Tv E k)(off:Nat):(Pl.c k off).iI E=true:=by
 unfold Tv at h
 cases hr:E.ro with
 | false=>exact xZ hr _
 | true=>rw [hr] at h;simp [Pl.iI,h]
def boW(op:BinOp)(bl:Bool)(x y:AV)(a:AT)(k:KW):Prop:=
 match x,y with
 | .i ki m,.i ki' n=>if ki=ki' then
   match op with
   | .add=>Fy a fun r a=>ki.wrap (m+n)=r∧k (.i ki r) st a
   | .sub=>Fy a fun r a=>ki.wrap (m - n)=r∧k (.i ki r) st a
   | .mul=>Fy a fun r a=>ki.wrap (m*n)=r∧k (.i ki r) st a
   | .quo=>Fy a fun r a=>n≠0∧ki.wrap (m.tdiv n)=r∧k (.i ki r) st a
   | .rem=>Fy a fun r a=>n≠0∧m.tmod n=r∧k (.i ki r) st a
   | .or=>Fy a fun r a=>(if n>m then n else m)=r∧k (.i ki r) st a
   | .eql=>k (.b (m==n)) st a
   | .neq=>k (.b (m !=n)) st a
   | .lss=>k (.b (decide (m<n))) st a
   | .leq=>k (.b (decide (m≤n))) st a
   | .gtr=>k (.b (decide (n<m))) st a
   | .geq=>k (.b (decide (n≤m))) st a
   | _=>False
  else False
 | .b m,.b n=>match bl,op with
  | true,.eql=>k (.b (m==n)) st a
  | true,.neq=>k (.b (!(m==n))) st a
  | _,_=>False
 | .s m,.s n=>match op with
  | .add=>tkS a fun r a=>m.length+n.length≤4611686018427387904∧m++n=r∧k (.s r) st a
  | .eql=>k (.b (m==n)) st a
  | .neq=>k (.b (!(m==n))) st a
  | _=>False
 | _,_=>False
def ldW(n:Option Nat)(x:AV)(a:AT)(k:KW):Prop:=
 match x with
 | .p kk off=>FN E st kk a fun cs a=>match pick n off cs with
  | some (.o _ _)=>k (.r (.c kk off)) st a
  | some y=>iO y.copy (k y st a)
  | none=>False
 | .e x off=>match pick n off x.cl with
  | some y=>k y st a
  | none=>False
 | .q pl i sz off=>pg E st pl a fun _ es a=>EM sz es i a fun e a=>match pick n off e.cl with
  | some y=>k y st a
  | none=>False
 | _=>False
def stW(n:Nat)(x y:AV)(yo:bz)(a:AT)(k:KW):Prop:=
 match x with
 | .p kk off=>Tv E kk∧(FN E st kk a fun cs a=>match y with
  | .o t es=>match yo with
   | .t m=>iO (n==1&&decide (off<cs.length)) (uY E ((st.cS m .u).bC (.c kk off)) kk (cs.set off (.o t es)) a fun st' a=>k .u st' a)
   | .c _=>False
  | .v pl lo len=>pl= .c kk off∧iO (lo==0&&n==1) (pg E st pl a fun t es a=>yl a fun C a=>len≤es.length∧es.take len=C∧(uY E (st.bC (.c kk off)) kk (cs.set off (.o t C)) a fun st' a=>k .u st' a))
  | y=>y.deep kk.dp=true∧iO (y.copy&&y.nc==n&&y.cl.all AV.one&&decide (off+n≤cs.length)) (uY E st kk (putCells cs off y.cl) a fun st' a=>k .u st' a))
 | .q pl i sz off=>E.ro=false∧(pg E st pl a fun t es a=>Lw a fun e a=>es[i]? =some e∧iO (e.nc==sz&&y.pure&&y.nc==n&&y.cl.all AV.one&&decide (off+n≤sz)) (yl a fun C a=>es.set i (BV e off y.cl)=C∧(DM E st (.o t C) pl a fun st' a=>k .u st' a)))
 | _=>False
def FO(x:Option AV)(dflt:Nat)(a:AT)(k:Nat→AT→Prop):Prop:=
 match x with
 | none=>k dflt a
 | some y=>Lx y a k
def slW(t sz:Nat)(x:AV)(lo hi:Option AV)(a:AT)(k:KW):Prop:=
 match x with
 | .s l=>FO lo 0 a fun i a=>FO hi l.length a fun j a=>tkS a fun r a=>t=0∧i≤j∧j≤l.length∧(l.take j).drop i=r∧k (.s r) st a
 | .l t' es=>FO lo 0 a fun i a=>FO hi es.length a fun j a=>yl a fun r a=>t≠0∧es.all (fun e=>e.nc==sz)=true∧i≤j∧j≤es.length∧(es.take j).drop i=r∧k (.l t' r) st a
 | .r pl=>pg E st pl a fun t' es a=>FO lo 0 a fun i a=>FO hi es.length a fun j a=>tkN a fun m a=>iO (t !=0&&t'==t) (i≤j∧j≤es.length∧j - i=m∧k (.v pl i m) st a)
 | _=>False
def FP(t:TypeId)(x:bz)(a:AT)(k:List AV→St→AT→Prop):Prop:=
 match x with
 | .c .n=>k [] st a
 | .c _=>False
 | .t m=>match az st.fr m with
  | .n=>k [] st a
  | .o t' es=>iO (t'==t) (k es (st.cS m .u) a)
  | .r pl=>Tu E pl∧(pg E st pl a fun t' es a=>iO (t'==t) (DM E st .u pl a fun st' a=>k es st' a))
  | .v pl lo len=>Tu E pl∧iO (lo==0) (pg E st pl a fun t' es a=>yl a fun C a=>len≤es.length∧t'=t∧es.take len=C∧(DM E st .u pl a fun st' a=>k C st' a))
  | _=>False
noncomputable def Rz(m:Nat)(f:FuncId)(args:List AV)(a:AT)(k:KW):Prop:=
 match m with
 | 0=>xz E st args a fun ys ts a=>Lw a fun x a=>call G Ω ⟨0,false⟩ f ys (fun _=>none)=some (.ret x,fun _=>none)∧(match ts with
  | []=>iO x.pure (k x st a)
  | ts=>x.pure=true∧x.off ts=true∧k x st a)
 | 1=>xz E st args a fun ys ts a=>Lw a fun x a=>Ω f ys=some x∧(match ts with
  | []=>iO x.pure (k x st a)
  | ts=>x.pure=true∧x.off ts=true∧k x st a)
 | _=>False
noncomputable def RA(f:FuncId)(args:List AV)(a:AT)(k:KW):Prop:=
 match args.all AV.jJ with
 | true=>Rz G Ω E st 0 f args a k
 | false=>E.ro=false∧(st.bx.all fun y=>AV.fJ E.dp y.2)=true∧iO (args.all AV.copy) (Lw a fun x a=>JR a fun h2 a=>Tt a fun bx a=>JR a fun h3 a=>
  call G Ω ⟨E.dp+1,false⟩ f args (fun kk=>st.box E.dp kk)=some (.ret x,h2)∧fi E.dp h2 st.bx=bx∧(fun kk:Key=>if kk.dp<E.dp then h2 kk else none)=h3∧
  k x ⟨st.fr.map fun y=>(y.1,if lL y.2=true then .u else y.2),bx,h3⟩ a)
noncomputable def c3W(f:FuncId)(args:List AV)(a:AT)(k:KW):Prop:=
 (st.bx.all fun y=>AV.fJ E.dp y.2)=true∧iO (args.all AV.copy) (Lw a fun x a=>JR a fun h2 a=>call G Ω ⟨E.dp+1,true⟩ f args (fun kk=>st.box E.dp kk)=some (.ret x,h2)∧iO x.pure (k x st a))
noncomputable def cnW(dd:Nat)(f:FuncId)(args:List AV)(a:AT)(k:KW):Prop:=
 E.ro=false∧(st.bx.all fun y=>AV.fJ E.dp y.2)=true∧iO (args.all AV.copy) (yl a fun cs a=>JR a fun h2 a=>Tt a fun bx a=>JR a fun h3 a=>
  call G Ω ⟨E.dp+1,false⟩ f args (fun kk=>st.box E.dp kk)=some (.new cs,h2)∧fi E.dp h2 st.bx=bx∧(fun kk:Key=>if kk.dp<E.dp then h2 kk else none)=h3∧
  su E.dp ⟨st.fr.map fun y=>(y.1,if lL y.2=true then .u else y.2),bx,h3⟩ dd=true∧
  k (.p ⟨E.dp,dd⟩ 0) ⟨st.fr.map fun y=>(y.1,if lL y.2=true then .u else y.2),(dd,cs)::bx,h3⟩ a)
noncomputable def ckW(dd:Nat)(f:FuncId)(args:List AV)(a:AT)(k:KW):Prop:=
 iO (AV.bJ args) (yl a fun cs a=>JR a fun h2 a=>call G Ω ⟨E.dp+1,false⟩ f args (fun _=>none)=some (.new cs,h2)∧(cs.all s9&&su E.dp st dd)=true∧k (.p ⟨E.dp,dd⟩ 0) {st with bx:=(dd,cs)::st.bx} a)
noncomputable def oj(a:AT)(o:pC)(k:KW):Prop:=
 match o with
 | .mv x=>match st.ev x with
  | .o _ _=>match x with
   | .t n=>k (.r (.s n)) st a
   | .c _=>False
  | y=>k y st a
 | .as x=>match x with
  | .c y=>iO y.pure (k y st a)
  | .t n=>match az st.fr n with
   | .o t es=>match d with
    | some d=>k (.o t es) ((st.cS n .u).bC (.s d)) a
    | none=>False
   | .v pl lo len=>match d with
    | some d=>Hc a fun own a=>match own with
     | true=>pl= .s d∧iO (lo==0) (pg E st pl a fun t es a=>yl a fun C a=>len≤es.length∧es.take len=C∧k (.o t C) (st.bC (.s d)) a)
     | false=>(pl= .s d→(lo==0)=false)∧k (.v pl lo len) st a
    | none=>False
   | y=>iO (y.copy||EK y) (k y st a)
 | .pk c x y=>match st.ev c with
  | .b z=>Hc a fun w a=>z=w∧(match w with
   | true=>iO (st.ev x).copy (k (st.ev x) st a)
   | false=>iO (st.ev y).copy (k (st.ev y) st a))
  | _=>False
 | .bx x=>match d with
  | some d=>((st.ev x).deep E.dp&&(st.fr.all (fun y=>y.2.cU ⟨E.dp,d⟩)&&st.bx.all (fun y=>AV.iE ⟨E.dp,d⟩ y.2)))=true∧
   iO ((st.ev x).copy&&(st.ev x).cl.all AV.one&&jK st.bx d) (k (.p ⟨E.dp,d⟩ 0) {st with bx:=(d,(st.ev x).cl)::st.bx} a)
  | none=>False
 | .al zs=>match d with
  | some d=>(st.fr.all (fun y=>y.2.cU ⟨E.dp,d⟩)&&st.bx.all (fun y=>AV.iE ⟨E.dp,d⟩ y.2))=true∧iO (jK st.bx d) (k (.p ⟨E.dp,d⟩ 0) {st with bx:=(d,zs)::st.bx} a)
  | none=>False
 | .ld n x=>ldW E st n (st.ev x) a k
 | .st n x y=>stW E st n (st.ev x) (st.ev y) y a k
 | .fa off x=>match st.ev x with
  | .p kk o=>k (.p kk (o+off)) st a
  | .e y o=>k (.e y (o+off)) st a
  | .q pl i sz o=>pg E st pl a fun _ es a=>i<es.length∧k (.q pl i sz (o+off)) st a
  | _=>False
 | .fd n off x=>match st.ev x with
  | .a cs=>match pick n off cs with
   | some y=>k y st a
   | none=>False
  | _=>False
 | .ia sz arr x i=>Lx (st.ev i) a fun j a=>iaW E st sz arr (st.ev x) x j a k
 | .bo op bl x y=>boW st op bl (st.ev x) (st.ev y) a k
 | .no x=>match st.ev x with
  | .b y=>k (.b (!y)) st a
  | _=>False
 | .ae ks ng x y=>match st.ev x,st.ev y with
  | .a xs,.a ys=>Hc a fun r a=>jA ks xs ys=some r∧k (.b (if ng then !r else r)) st a
  | _,_=>False
 | .cv ki x=>match st.ev x with
  | .i _ n=>Fy a fun r a=>ki.wrap n=r∧k (.i ki r) st a
  | _=>False
 | .bs t sz es=>match d with
  | some d=>iO ((es.map st.ev).all fun y=>y.pure&&y.cl.all AV.one&&y.nc==sz) (yl a fun vs a=>es.map st.ev=vs∧k (.o t vs) (st.bC (.s d)) a)
  | none=>False
 | .bd zs fs=>iO (fs.all fun f=>(st.ev f.2.2).copy&&(st.ev f.2.2).nc==f.2.1&&(st.ev f.2.2).cl.all AV.one&&decide (f.1+f.2.1≤zs.length))
   (k (.a (fs.foldl (fun cs f=>putCells cs f.1 (st.ev f.2.2).cl) zs)) st a)
 | .ms t _ by_ x n=>match d with
  | some d=>Lx (st.ev n) a fun n a=>yl a fun es a=>n*by_≤140737488355328∧n≤maxLen∧List.replicate n x=es∧k (.o t es) (st.bC (.s d)) a
  | none=>False
 | .sl t sz x lo hi=>slW E st t sz (st.ev x) (lo.map st.ev) (hi.map st.ev) a k
 | .ex x i=>match st.ev x with
  | .tp vs=>match vs[i]? with
   | some y=>k y st a
   | none=>False
  | _=>False
 | .mf f B=>iO (AV.nj (B.map st.ev)) (k (.f f (B.map st.ev)) st a)
 | .ca m f args=>Rz G Ω E st m f (args.map st.ev) a k
 | .cf m x args=>match st.ev x with
  | .f f B=>iO (decide (f<1000000)) (Rz G Ω E st m f (args.map st.ev++B) a k)
  | _=>False
 | .c2 f args=>RA G Ω E st f (args.map st.ev) a k
 | .d2 x args=>match st.ev x with
  | .f f B=>match decide (f<1000000) with
   | true=>RA G Ω E st f (args.map st.ev++B) a k
   | false=>RA G Ω E st (f - 1000000) (B++args.map st.ev) a k
  | _=>False
 | .c3 f args=>c3W G Ω E st f (args.map st.ev) a k
 | .d3 x args=>match st.ev x with
  | .f f B=>iO (decide (f<1000000)) (c3W G Ω E st f (args.map st.ev++B) a k)
  | _=>False
 | .cn f args=>match d with
  | some dd=>cnW G Ω E st dd f (args.map st.ev) a k
  | none=>False
 | .ck f args=>match d with
  | some dd=>ckW G Ω E st dd f (args.map st.ev) a k
  | none=>False
 | .cr t f args=>match d with
  | some dd=>iO (AV.bJ (args.map st.ev)) (Ω f (args.map st.ev)=some (.o t [])∧k (.o t []) (st.bC (.s dd)) a)
  | none=>False
 | .ln str x=>match st.ev x with
  | .s l=>iO str (Fy a fun n a=>(l.length:Int)=n∧k (.i .i64 n) st a)
  | y=>iO (!str) (Hd E st y a fun _ es a=>Fy a fun n a=>(es.length:Int)=n∧k (.i .i64 n) st a)
 | .ap t sz by_ x y=>match d with
  | some d=>Hd E st (st.ev y) a fun _ ys a=>FP E st t x a fun es st' a=>yl a fun r a=>
    ys.all (fun e=>e.nc==sz)=true∧(es.length+ys.length)*by_≤140737488355328∧es.length+ys.length≤maxLen∧es++ys=r∧k (.o t r) (st'.bC (.s d)) a
  | none=>False
 | .nc x=>match st.ev x with
  | .p kk o=>k (.p kk o) st a
  | .e y o=>k (.e y o) st a
  | .f g B=>k (.f g B) st a
  | _=>False
 | .bg zs fs=>iO (fs.all (PD st zs.length)) (k (.ag (fs.foldl (wA st) (zs,[])).1 (fs.foldl (wA st) (zs,[])).2) st a)
 | .bxg x=>match d with
  | some dd=>(match st.ev x with
   | .ag cs rs=>iO (cs.all (fun c=>c.copy||A0 c)&&AV.fJ E.dp cs&&su E.dp st dd) (match zN dd {st with bx:=(dd,cs)::st.bx} rs with
    | some st'=>k (.p ⟨E.dp,dd⟩ 0) st' a
    | none=>False)
   | _=>False)
  | none=>False
end
section
variable {G:qG}{Ω:dK}{E:Env}{st:St}{d:Option Nat}
def Told(o:pC)(k:KW)(G:qG)(Ω:dK)(E:Env)(st:St)(d:Option Nat):Prop:=∃ x st' r,execOp (call G Ω) Ω E st d o=some (x,st')∧k x st' r
theorem Told.mk{o:pC}{k:KW}{x:AV}{st':St}{r:AT}(h:execOp (call G Ω) Ω E st d o=some (x,st'))(hk:k x st' r):Told o k G Ω E st d:=⟨x,st',r,h,hk⟩
theorem zR{e:AV}{f:AV→AV}(h:es[j]? =some e)(hn:e.nc=sz):elemAt sz st es[j]? f=some (f e,st):=by
 rw [h];simp only [elemAt,ad,hn,aA]
theorem ab8{op:BinOp}{bl:Bool}{x y:bz}{k:KW}(h:boW st op bl (st.ev x) (st.ev y) a k):Told (.bo op bl x y) k G Ω E st d:=by
 unfold boW at h
 split at h
 ·rename_i ki m ki' n hx hy
  split at h
  ·rename_i L
   subst L
   split at h
   ·obtain ⟨r,a',h1,h2⟩:=tH h
    exact .mk (by simp only [execOp,hx,hy,qb,aA,sU,h1,ad]) h2
   ·obtain ⟨r,a',h1,h2⟩:=tH h
    exact .mk (by simp only [execOp,hx,hy,qb,aA,sU,h1,ad]) h2
   ·obtain ⟨r,a',h1,h2⟩:=tH h
    exact .mk (by simp only [execOp,hx,hy,qb,aA,sU,h1,ad]) h2
   ·obtain ⟨r,a',h0,h1,h2⟩:=tH h
    exact .mk (by simp only [execOp,hx,hy,qb,aA,sU,ab h0,h1,ad]) h2
   ·obtain ⟨r,a',h0,h1,h2⟩:=tH h
    exact .mk (by simp only [execOp,hx,hy,qb,aA,sU,ab h0,h1,ad]) h2
   ·obtain ⟨r,a',h1,h2⟩:=tH h
    exact .mk (by simp only [execOp,hx,hy,qb,aA,sU,h1,ad]) h2
   ·exact .mk (by simp only [execOp,hx,hy,qb,aA,sU,ad]) h
   ·exact .mk (by simp only [execOp,hx,hy,qb,aA,sU,ad]) h
   ·exact .mk (by simp only [execOp,hx,hy,qb,aA,sU,ad]) h
   ·exact .mk (by simp only [execOp,hx,hy,qb,aA,sU,ad]) h
   ·exact .mk (by simp only [execOp,hx,hy,qb,aA,sU,ad]) h
   ·exact .mk (by simp only [execOp,hx,hy,qb,aA,sU,ad]) h
   ·exact h.elim
  ·exact h.elim
 ·rename_i m n hx hy
  split at h
  ·exact .mk (by simp only [execOp,hx,hy,qb,aA,ad]) h
  ·exact .mk (by simp only [execOp,hx,hy,qb,aA,ad]) h
  ·exact h.elim
 ·rename_i m n hx hy
  split at h
  ·obtain ⟨r,a',h0,h1,h2⟩:=Ry h
   exact .mk (by simp only [execOp,hx,hy,qb,af h0,h1,ad]) h2
  ·exact .mk (by simp only [execOp,hx,hy,qb,ad]) h
  ·exact .mk (by simp only [execOp,hx,hy,qb,ad]) h
  ·exact h.elim
 ·exact h.elim
theorem ab9{n:Option Nat}{x:bz}{k:KW}(h:ldW E st n (st.ev x) a k):Told (.ld n x) k G Ω E st d:=by
 unfold ldW at h
 split at h
 ·rename_i kk off hx
  obtain ⟨cs,r,h1,h2⟩:=xY h
  split at h2
  ·rename_i t es hp
   exact .mk (by simp only [execOp,hx,h1,hp,ad]) h2
  ·rename_i y hy hp
   obtain ⟨h3,h4⟩:=c9 h2
   refine .mk (x:=y) (st':=st) ?_ h4
   simp only [execOp,hx,h1,hp,ad,af h3]
  ·exact h2.elim
 ·rename_i y off hx
  split at h
  ·rename_i z hp
   exact .mk (by simp only [execOp,hx,hp,ad]) h
  ·exact h.elim
 ·rename_i pl i sz off hx
  obtain ⟨t,es,r,h1,h2⟩:=kO h
  obtain ⟨e,r',h3,h4,h5⟩:=yn h2
  split at h5
  ·rename_i z hp
   exact .mk (by simp only [execOp,hx,h1,h3,hp,h4,aA,ad]) h5
  ·exact h5.elim
 ·exact h.elim
theorem aca{n:Nat}{x y:bz}{k:KW}(h:stW E st n (st.ev x) (st.ev y) y a k):Told (.st n x y) k G Ω E st d:=by
 unfold stW at h
 split at h
 ·rename_i kk off hx
  obtain ⟨D,h⟩:=h
  obtain ⟨cs,r,h1,h2⟩:=xY h
  split at h2
  ·rename_i t es hy
   split at h2
   ·rename_i m
    obtain ⟨h3,h4⟩:=c9 h2
    obtain ⟨r',h5⟩:=rj h4
    exact .mk (by simp only [execOp,hx,PK D _,aA,h1,hy,ad,af h3]) h5
   ·exact h2.elim
  ·rename_i pl lo len hy
   obtain ⟨rfl,h2⟩:=h2
   obtain ⟨h3,h4⟩:=c9 h2
   obtain ⟨t,es,r1,h5,h6⟩:=kO h4
   obtain ⟨C,r2,h7,rfl,h9⟩:=nu h6
   obtain ⟨r',I⟩:=rj h9
   simp only [aL] at h3
   exact .mk (by simp only [execOp,hx,PK D _,aA,h1,hy,ad,h3.1,h3.2,gN,qC,sL,h5,af h7,true_and,and_self]) I
  ·rename_i y' O N
   obtain ⟨h0,h2⟩:=h2
   obtain ⟨h3,h4⟩:=c9 h2
   obtain ⟨r',h5⟩:=rj h4
   have h6:((st.ev y).copy&&(st.ev y).nc==n&&(st.ev y).cl.all AV.one&&(st.ev y).deep kk.dp&&decide (off+n≤cs.length))=true:=by
    simp only [aL] at h3 ⊢
    exact ⟨⟨h3.1,h0⟩,h3.2⟩
   refine .mk (x:=.u) (st':=st.aW E.dp kk (putCells cs off (st.ev y).cl)) ?_ h5
   simp only [execOp,hx,PK D _,aA,h1,ad,af h6]
 ·rename_i pl i sz off hx
  obtain ⟨D,h⟩:=h
  obtain ⟨t,es,r,h1,h2⟩:=kO h
  obtain ⟨e,r1,h3,h4⟩:=A2 h2
  obtain ⟨h5,h6⟩:=c9 h4
  obtain ⟨C,r2,rfl,h8⟩:=nu h6
  obtain ⟨st',r3,h9,I⟩:=DN h8
  exact .mk (by simp only [execOp,hx,xZ D,aA,h1,h3,ad,af h5,h9]) I
 ·exact h.elim
theorem ya{x:Option bz}{dflt:Nat}{k:Nat→AT→Prop}(h:FO (x.map st.ev) dflt a k):∃ j r,pd st x dflt=some j∧k j r:=by
 cases x with
 | none=>exact ⟨dflt,a,rfl,h⟩
 | some y=>
  obtain ⟨j,r,h1,h2⟩:=IB (x:=st.ev y) h
  exact ⟨j,r,h1,h2⟩
theorem acb{t:Nat}{x:bz}{lo hi:Option bz}{k:KW}(h:slW E st t sz (st.ev x) (lo.map st.ev) (hi.map st.ev) a k):Told (.sl t sz x lo hi) k G Ω E st d:=by
 unfold slW at h
 split at h
 ·rename_i l hx
  obtain ⟨i,r1,h1,h2⟩:=ya h
  obtain ⟨j,r2,h3,h4⟩:=ya h2
  obtain ⟨z,r3,rfl,h5,h6,rfl,h8⟩:=Ry h4
  exact .mk (by simp [execOp,hx,h1,h3,h5,h6]) h8
 ·rename_i t' es hx
  obtain ⟨i,r1,h1,h2⟩:=ya h
  obtain ⟨j,r2,h3,h4⟩:=ya h2
  obtain ⟨z,r3,h0,J,h5,h6,rfl,h8⟩:=nu h4
  exact .mk (by simp only [execOp,hx,h1,h3,ad,J,uG,ne_eq,h0,zA,h5,h6,qC,Bool.and_true,gN,aA]) h8
 ·rename_i pl hx
  obtain ⟨t',es,r0,hr,h⟩:=kO h
  obtain ⟨i,r1,h1,h2⟩:=ya h
  obtain ⟨j,r2,h3,h4⟩:=ya h2
  obtain ⟨m,r3,h5⟩:=Rx h4
  obtain ⟨h6,h7,h8,rfl,I⟩:=c9 h5
  exact .mk (by simp only [execOp,hx,hr,h1,h3,ad,h6,h7,h8,qC,gN,aA]) I
 ·exact h.elim
theorem NH{t:TypeId}{x:bz}{k:List AV→St→AT→Prop}(h:FP E st t x a k):∃ es st' r,consume E st t x=some (es,st')∧k es st' r:=by
 unfold FP at h
 split at h
 ·exact ⟨_,_,a,rfl,h⟩
 ·exact h.elim
 ·rename_i m
  split at h
  ·rename_i hx
   exact ⟨_,_,a,by simp only [consume,hx],h⟩
  ·rename_i t' es hx
   obtain ⟨h1,h2⟩:=c9 h
   exact ⟨_,_,a,by simp only [consume,hx,af (dH.1 h1)],h2⟩
  ·rename_i pl hx
   obtain ⟨D,h⟩:=h
   obtain ⟨t',es,r,h1,h2⟩:=kO h
   obtain ⟨h3,h4⟩:=c9 h2
   obtain ⟨st',r',h5,h6⟩:=DN h4
   exact ⟨_,_,r',by simp only [consume,hx,Ow D,aA,h1,ad,af (dH.1 h3),h5],h6⟩
  ·rename_i pl lo len hx
   obtain ⟨D,h⟩:=h
   obtain ⟨h0,h⟩:=c9 h
   obtain ⟨t',es,r,h1,h2⟩:=kO h
   obtain ⟨C,r2,h3,h4,rfl,h6⟩:=nu h2
   obtain ⟨st',r',h7,h8⟩:=DN h6
   exact ⟨_,_,r',by simp only [consume,hx,Ow D,h0,gN,aA,h1,ad,af (And.intro h3 h4),h7],h8⟩
  ·exact h.elim
theorem acd{arr:Option Nat}{x i:bz}{k:KW}(hj:rf (st.ev i)=some j)(h:iaW E st sz arr (st.ev x) x j a k):Told (.ia sz arr x i) k G Ω E st d:=by
 unfold iaW at h
 split at h
 ·rename_i len
  obtain ⟨h1,h⟩:=h
  split at h
  ·rename_i kk o hx
   exact .mk (by simp only [execOp,hj,ad,af h1,hx]) h
  ·rename_i y o hx
   exact .mk (by simp only [execOp,hj,ad,af h1,hx]) h
  ·exact h.elim
 ·split at h
  ·rename_i t es hx
   obtain ⟨e,r,h1,h2,h3⟩:=yn h
   exact .mk (by simp only [execOp,hj,ad,hx];exact zR h1 h2) h3
  ·rename_i t es hx
   split at h
   ·rename_i m
    obtain ⟨e,r,h1,h2,h3⟩:=yn h
    exact .mk (by simp only [execOp,hj,ad,hx];exact zR h1 h2) h3
   ·exact h.elim
  ·rename_i pl hx
   obtain ⟨t,es,r0,h0,h⟩:=kO h
   obtain ⟨e,r,h1,h2,h3⟩:=yn h
   exact .mk (by simp only [execOp,hj,ad,hx,h0];exact zR h1 h2) h3
  ·rename_i pl lo len hx
   obtain ⟨t,es,r0,h0,h4,h5,h⟩:=kO h
   obtain ⟨e,r,h1,h2,h3⟩:=yn h
   exact .mk (by simp only [execOp,hj,ad,hx,af h4,h0,af h5];exact zR h1 h2) h3
  ·exact h.elim
theorem Ly{m:Nat}{f:FuncId}{args:List AV}{k:KW}(h:Rz G Ω E st m f args a k):∃ x r,dj (call G Ω) Ω E st m f args=some (x,st)∧k x st r:=by
 unfold Rz at h
 split at h
 ·obtain ⟨ys,ts,r,h1,h2⟩:=sW h
  obtain ⟨x,r1,h3,h4⟩:=A2 h2
  have h5:∃ b,(x.pure&&(ts.isEmpty||x.off ts))=true∧b=r1∧k x st b:=by
   split at h4
   ·obtain ⟨h5,h6⟩:=c9 h4
    exact ⟨r1,by simp [h5],rfl,h6⟩
   ·exact ⟨r1,by simp [h4.1,h4.2.1],rfl,h4.2.2⟩
  obtain ⟨b,h6,rfl,h7⟩:=h5
  exact ⟨x,b,by simp only [dj,h1,ad,h3,h6,aA],h7⟩
 ·obtain ⟨ys,ts,r,h1,h2⟩:=sW h
  obtain ⟨x,r1,h3,h4⟩:=A2 h2
  have h5:∃ b,(x.pure&&(ts.isEmpty||x.off ts))=true∧b=r1∧k x st b:=by
   split at h4
   ·obtain ⟨h5,h6⟩:=c9 h4
    exact ⟨r1,by simp [h5],rfl,h6⟩
   ·exact ⟨r1,by simp [h4.1,h4.2.1],rfl,h4.2.2⟩
  obtain ⟨b,h6,rfl,h7⟩:=h5
  exact ⟨x,b,by simp only [dj,h1,ad,h3,h6,aA],h7⟩
 ·exact h.elim
theorem Lz{f:FuncId}{args:List AV}{k:KW}(h:RA G Ω E st f args a k):∃ x st' r,dz (call G Ω) Ω E st f args=some (x,st')∧k x st' r:=by
 unfold RA at h
 split at h
 ·rename_i hc
  obtain ⟨x,r,h1,h2⟩:=Ly h
  exact ⟨x,st,r,by rw [dz,af hc];exact h1,h2⟩
 ·rename_i hc
  obtain ⟨h1,h2,h⟩:=h
  obtain ⟨h3,h⟩:=c9 h
  obtain ⟨x,r1,h⟩:=A2 h
  obtain ⟨F,r2,h⟩:=ym h
  obtain ⟨bx,r3,h⟩:=Ov h
  obtain ⟨K,r4,h4,rfl,rfl,h5⟩:=ym h
  refine ⟨x,st.back E.dp F,r4,?_,h5⟩
  rw [dz,ab (by rw [hc];simp)]
  simp only [h1,h2,h3,Bool.not_false,gN,aA,h4,ad]
theorem RB{f:FuncId}{args:List AV}{k:KW}(h:c3W G Ω E st f args a k):∃ x r,kd (call G Ω) E st f args=some (x,st)∧k x st r:=by
 obtain ⟨h1,h⟩:=h
 obtain ⟨h2,h⟩:=c9 h
 obtain ⟨x,r1,h⟩:=A2 h
 obtain ⟨F,r2,h3,h⟩:=ym h
 obtain ⟨h4,h5⟩:=c9 h
 exact ⟨x,r2,by simp only [kd,h1,h2,gN,aA,h3,ad,h4],h5⟩
theorem LA{o:pC}{k:KW}(h:oj G Ω E st d a o k):Told o k G Ω E st d:=by
 cases o with
 | mv x=>
  simp only [oj] at h
  split at h
  ·rename_i t es hx
   split at h
   ·exact .mk (by simp only [execOp,hx]) h
   ·exact h.elim
  ·rename_i hx
   refine .mk (x:=st.ev x) (st':=st) ?_ h
   simp only [execOp]
 | as x=>
  cases x with
  | c y=>
   obtain ⟨h1,h2⟩:=c9 h
   exact .mk (by simp only [execOp,h1,aA]) h2
  | t n=>
   simp only [oj] at h
   split at h
   ·rename_i t es hx
    split at h
    ·exact .mk (by simp only [execOp,hx,ad]) h
    ·exact h.elim
   ·rename_i pl lo len hx
    split at h
    ·rename_i dd
     obtain ⟨own,r,h⟩:=wC h
     cases own with
     | true=>
      obtain ⟨rfl,h⟩:=h
      obtain ⟨h1,h⟩:=c9 h
      obtain ⟨t,es,r1,h2,h⟩:=kO h
      obtain ⟨C,r2,h3,rfl,h5⟩:=nu h
      exact .mk (by simp only [execOp,hx,ad,h1,qC,gN,and_self,aA,h2,af h3]) h5
     | false=>
      obtain ⟨h1,h2⟩:=h
      refine .mk (x:=.v pl lo len) (st':=st) ?_ h2
      simp only [execOp,hx,ad]
      rw [ab]
      simp only [aL,eg]
      rintro ⟨h3,h4⟩
      rw [h1 h3] at h4
      cases h4
    ·exact h.elim
   ·rename_i S Q
    obtain ⟨h1,h2⟩:=c9 h
    refine .mk (x:=az st.fr n) (st':=st) ?_ h2
    simp only [execOp,af h1]
 | pk c x y=>
  simp only [oj] at h
  split at h
  ·rename_i z hc
   obtain ⟨w,r,rfl,h⟩:=wC h
   cases z with
   | true=>
    obtain ⟨h1,h2⟩:=c9 h
    exact .mk (by simp only [execOp,hc,pB,ad,aA,h1]) h2
   | false=>
    obtain ⟨h1,h2⟩:=c9 h
    exact .mk (by simp only [execOp,hc,pB,ad,dq,cF,h1,aA]) h2
  ·exact h.elim
 | bx x=>
  simp only [oj] at h
  split at h
  ·rename_i dd
   obtain ⟨h1,h⟩:=h
   obtain ⟨h2,h3⟩:=c9 h
   simp only [aL] at h1 h2
   exact .mk (by simp only [execOp,ad,h1.1,h1.2.1,h1.2.2,h2.1.1,h2.1.2,h2.2,gN,aA]) h3
  ·exact h.elim
 | al zs=>
  simp only [oj] at h
  split at h
  ·rename_i dd
   obtain ⟨h1,h⟩:=h
   obtain ⟨h2,h3⟩:=c9 h
   simp only [aL] at h1
   exact .mk (by simp only [execOp,ad,h1.1,h1.2,h2,gN,aA]) h3
  ·exact h.elim
 | ld n x=>exact ab9 h
 | st n x y=>exact aca h
 | fa off x=>
  simp only [oj] at h
  split at h
  ·rename_i hx;exact .mk (by simp only [execOp,hx]) h
  ·rename_i hx;exact .mk (by simp only [execOp,hx]) h
  ·rename_i hx
   obtain ⟨t,es,r,h1,h2,h3⟩:=kO h
   exact .mk (by simp only [execOp,hx,h1,ad,af h2]) h3
  ·exact h.elim
 | fd n off x=>
  simp only [oj] at h
  split at h
  ·rename_i cs hx
   split at h
   ·rename_i y hy
    exact .mk (by simp only [execOp,hx,hy,ad]) h
   ·exact h.elim
  ·exact h.elim
 | ia sz arr x i=>
  obtain ⟨j,r,h1,h2⟩:=IB (x:=st.ev i) h
  exact acd h1 h2
 | bo op bl x y=>exact ab8 h
 | no x=>
  simp only [oj] at h
  split at h
  ·rename_i y hx
   exact .mk (by simp only [execOp,hx,pB,ad]) h
  ·exact h.elim
 | ae ks ng x y=>
  simp only [oj] at h
  split at h
  ·rename_i hx hy
   obtain ⟨r,a',h1,h2⟩:=wC h
   exact .mk (by simp only [execOp,hx,hy,h1,ad]) h2
  ·exact h.elim
 | cv ki x=>
  simp only [oj] at h
  split at h
  ·rename_i hx
   obtain ⟨r,a',h1,h2⟩:=tH h
   exact .mk (by simp only [execOp,hx,h1]) h2
  ·exact h.elim
 | bs t sz es=>
  simp only [oj] at h
  split at h
  ·obtain ⟨h1,h2⟩:=c9 h
   obtain ⟨vs,r,rfl,h3⟩:=nu h2
   exact .mk (by simp only [execOp,ad,h1,aA]) h3
  ·exact h.elim
 | bd zs fs=>
  obtain ⟨h1,h2⟩:=c9 h
  exact .mk (by simp only [execOp,h1,aA]) h2
 | ms t sz by_ x n=>
  simp only [oj] at h
  split at h
  ·obtain ⟨m,r,h1,h2⟩:=IB h
   obtain ⟨es,r2,h3,h4,rfl,h6⟩:=nu h2
   exact .mk (by simp only [execOp,ad,h1,h3,h4,qC,gN,aA]) h6
  ·exact h.elim
 | sl t sz x lo hi=>exact acb h
 | ex x i=>
  simp only [oj] at h
  split at h
  ·rename_i vs hx
   split at h
   ·rename_i y hy
    exact .mk (by simp only [execOp,hx,hy,ad]) h
   ·exact h.elim
  ·exact h.elim
 | mf f B=>
  obtain ⟨h1,h2⟩:=c9 h
  exact .mk (by simp only [execOp,h1,aA]) h2
 | ca m f args=>
  obtain ⟨x,r,h1,h2⟩:=Ly h
  exact .mk h1 h2
 | cf m x args=>
  simp only [oj] at h
  split at h
  ·rename_i f B hx
   obtain ⟨hg,h⟩:=c9 h
   obtain ⟨x,r,h1,h2⟩:=Ly h
   exact .mk (by simp only [execOp,hx,af (sM hg)];exact h1) h2
  ·exact h.elim
 | c2 f args=>
  obtain ⟨x,st',r,h1,h2⟩:=Lz h
  exact .mk h1 h2
 | d2 x args=>
  simp only [oj] at h
  split at h
  ·rename_i f B hx
   split at h
   ·rename_i hg
    obtain ⟨x,st',r,h1,h2⟩:=Lz h
    exact .mk (by simp only [execOp,hx,af (sM hg)];exact h1) h2
   ·rename_i hg
    obtain ⟨x,st',r,h1,h2⟩:=Lz h
    exact .mk (by simp only [execOp,hx,ab (Dm hg)];exact h1) h2
  ·exact h.elim
 | c3 f args=>
  obtain ⟨x,r,h1,h2⟩:=RB h
  exact .mk h1 h2
 | d3 x args=>
  simp only [oj] at h
  split at h
  ·rename_i f B hx
   obtain ⟨hg,h⟩:=c9 h
   obtain ⟨x,r,h1,h2⟩:=RB h
   exact .mk (by simp only [execOp,hx,af (sM hg)];exact h1) h2
  ·exact h.elim
 | cn f args=>
  simp only [oj] at h
  split at h
  ·rename_i dd
   obtain ⟨h1,h2,h⟩:=h
   obtain ⟨h3,h⟩:=c9 h
   obtain ⟨cs,r1,h⟩:=nu h
   obtain ⟨F,r2,h⟩:=ym h
   obtain ⟨bx,r3,h⟩:=Ov h
   obtain ⟨K,r4,h4,rfl,rfl,h5,h6⟩:=ym h
   refine .mk (x:=.p ⟨E.dp,dd⟩ 0) (st':={(st.back E.dp F) with bx:=(dd,cs)::(st.back E.dp F).bx}) ?_ h6
   have M:su E.dp (st.back E.dp F) dd=true:=h5
   simp only [execOp,ad,AY,h1,h2,h3,Bool.not_false,gN,aA,h4,M]
  ·exact h.elim
 | ck f args=>
  simp only [oj] at h
  split at h
  ·rename_i dd
   obtain ⟨h1,h⟩:=c9 h
   obtain ⟨cs,r1,h⟩:=nu h
   obtain ⟨F,r2,h4,h5,h6⟩:=ym h
   exact .mk (by simp only [execOp,ad,AZ,h1,aA,h4,h5]) h6
  ·exact h.elim
 | cr t f args=>
  simp only [oj] at h
  split at h
  ·rename_i dd
   obtain ⟨h1,h2,h3⟩:=c9 h
   exact .mk (by simp only [execOp,ad,Iv,h1,aA,h2]) h3
  ·exact h.elim
 | ln str x=>
  simp only [oj] at h
  split at h
  ·rename_i l hx
   obtain ⟨h1,h2⟩:=c9 h
   obtain ⟨n,r,h3,h4⟩:=tH h2
   exact .mk (by simp only [execOp,hx,h1,aA,h3]) h4
  ·rename_i hx
   obtain ⟨h1,h2⟩:=c9 h
   obtain ⟨t,es,r,h3,h4⟩:=JS h2
   obtain ⟨n,r,h5,h6⟩:=tH h4
   have hs:str=false:=by simpa using h1
   refine .mk (x:=.i .i64 n) (st':=st) ?_ h6
   have U:∀ kk o m s,st.ev x≠.sp kk o m s:=fun kk o m s e=>by rw [e] at h3;cases h3
   simp only [execOp,hs,dq,cF]
   simp only [h3,ad,h5]
 | ap t sz by_ x y=>
  simp only [oj] at h
  split at h
  ·obtain ⟨t',ys,r,h1,h2⟩:=JS h
   obtain ⟨es,st',r2,h3,h4⟩:=NH h2
   obtain ⟨z,r3,h5,h6,h7,rfl,h9⟩:=nu h4
   exact .mk (by simp only [execOp,ad,h1,h3,h5,h6,h7,qC,gN,aA]) h9
  ·exact h.elim
 | nc x=>
  simp only [oj] at h
  split at h
  ·rename_i hx;exact .mk (by simp only [execOp,hx]) h
  ·rename_i hx;exact .mk (by simp only [execOp,hx]) h
  ·rename_i hx;exact .mk (by simp only [execOp,hx]) h
  ·exact h.elim
 | bg zs fs=>
  obtain ⟨h1,h2⟩:=c9 h
  exact .mk (by simp only [execOp,h1,aA]) h2
 | bxg x=>
  simp only [oj] at h
  split at h
  ·rename_i dd
   split at h
   ·rename_i cs rs hx
    obtain ⟨h1,h2⟩:=c9 h
    split at h2
    ·rename_i st' ht
     exact .mk (by simp only [execOp,ad,hx,h1,aA,ht,jf]) h2
    ·exact h2.elim
   ·exact h.elim
  ·exact h.elim
end
section
variable (G:qG)(Ω:dK)(E:Env)
abbrev KS:=St→AT→Prop
noncomputable def gW(st:St)(g:dx)(a:AT)(q:KS):Prop:=
 match g.g with
 | none=>oj G Ω E st g.d a g.o fun x st' a=>q (put st' g.d (fg g.fz x)) a
 | some (j,want)=>match az st.fr j with
  | .b x=>Hc a fun y a=>(x==want)=y∧(match y with
   | true=>oj G Ω E st g.d a g.o fun x st' a=>q (put st' g.d (fg g.fz x)) a
   | false=>q (put st g.d .sk) a)
  | .sk=>q (put st g.d .sk) a
  | _=>False
def F4(dp:Nat)(p:bR)(v:St)(q:Prop):Prop:=
 match p.p.o with
 | .st _ x y=>(match yg (v.ev y) with
  | false=>q
  | true=>match v.ev x with
   | .p k _=>k.dp=dp∧iO (p.vb==[k.d]&&(match y with
    | .t m=>p.cs==[m]
    | .c _=>false)) q
   | _=>False)
 | .ap _ _ _ x _=>iO (Iw (v.ev x)==(p.cs.length==2)) q
 | _=>q
theorem NQ{dp:Nat}{p:bR}{v:St}{q:Prop}(h:F4 dp p v q):gj dp p v=true∧q:=by
 grind [F4,gj,c9]
noncomputable def PV(st:St)(p:bR)(a:AT)(q:KS):Prop:=
 iO (me (view p st) p.p.o) (F4 E.dp p (view p st) (oj G Ω E (view p st) p.p.d a p.p.o fun x v' a=>(gZ E.dp p.nk x&&okB E.dp p.nb x)=true∧q ((effect p (x,v')).app st) a))
noncomputable def dW(st:St)(p:bR)(a:AT)(q:KS):Prop:=
 match p.lt with
 | true=>match p.p.g with
  | none=>PV G Ω E st p a q
  | some (j,want)=>match az st.fr j with
   | .b x=>Hc a fun y a=>(x==want)=y∧(match y with
    | true=>PV G Ω E st p a q
    | false=>q ((⟨ke p.p.d .sk,[],[],none⟩:cq).app st) a)
   | .sk=>q ((⟨ke p.p.d .sk,[],[],none⟩:cq).app st) a
   | _=>False
 | false=>gW G Ω E st p.p a q
noncomputable def AF(kf kb:List Nat)(gs:List dx)(st:St):Option St:=(iL (call G Ω) Ω E st gs).map fun s=>s.bB kf kb
noncomputable def DZ(kf kb:List Nat)(gs:List bR)(st:St):Option St:=(kM (call G Ω) Ω E st gs).map fun s=>s.bB kf kb
def acV(d:Option Nat)(m n:Nat)(d':Option Nat):Bool:=(match d,d' with
 | some x,some y=>x==y
 | none,none=>true
 | _,_=>false)&&m==n
noncomputable def D0(kf kb:List Nat):St→List dx→AT→KS→Prop
 | st,[],a,q=>q (st.bB kf kb) a
 | st,g::gs,a,q=>match a with
  | .jb d n b=>(match acV g.d gs.length n d with
   | true=>jU b fun b=>match b with
    | .co (.jn X) r=>AF G Ω E kf kb (g::gs) st=some X∧q X r
    | _=>False
   | false=>gW G Ω E st g (.jb d n b) fun st a=>D0 kf kb st gs a q)
  | a=>gW G Ω E st g a fun st a=>D0 kf kb st gs a q
noncomputable def D1(kf kb:List Nat):St→List bR→AT→KS→Prop
 | st,[],a,q=>q (st.bB kf kb) a
 | st,p::ps,a,q=>match a with
  | .jb d n b=>(match acV p.p.d ps.length n d with
   | true=>jU b fun b=>match b with
    | .co (.jn X) r=>DZ G Ω E kf kb (p::ps) st=some X∧q X r
    | _=>False
   | false=>dW G Ω E st p (.jb d n b) fun st a=>D1 kf kb st ps a q)
  | a=>dW G Ω E st p a fun st a=>D1 kf kb st ps a q
def xH(st:St)(p:wy)(a:AT)(q:KS):Prop:=
 match p with
 | .own d t=>match az st.fr d with
  | .n=>q ((st.bC (.s d)).cS d (.o t [])) a
  | .o _ _=>q st a
  | _=>False
 | .fz d=>match az st.fr d with
  | .o t es=>q (st.cS d (.l t es)) a
  | _=>False
 | .ownC d off t=>match az st.fr d with
  | .p k o=>E.ro=false∧(FN E st k a fun cs a=>match cs[o+off]? with
   | some .n=>uY E (st.bC (.c k (o+off))) k (cs.set (o+off) (.o t [])) a q
   | some (.o _ _)=>q st a
   | _=>False)
  | _=>False
 | .fzC d off=>match az st.fr d with
  | .p k o=>E.ro=false∧(FN E st k a fun cs a=>match cs[o+off]? with
   | some (.o t es)=>uY E st k (cs.set (o+off) (.l t es)) a q
   | _=>False)
  | _=>False
 | .fzB d agg=>match az st.fr d with
  | .p k 0=>k.dp=E.dp∧(match aZ st.bx k.d with
   | some cs=>iO (AV.bJ cs) (match agg with
    | true=>q {(st.cS d (.e (.a cs) 0)) with bx:=st.bx.filter fun y=>y.1 !=k.d} a
    | false=>match cs with
     | [c]=>q {(st.cS d (.e c 0)) with bx:=st.bx.filter fun y=>y.1 !=k.d} a
     | _=>False)
   | none=>False)
  | _=>False
 | .sg d off nd sz=>match iM E st (.sg d off nd sz) with
  | some st'=>q st' a
  | none=>False
 | .unp d off=>match iM E st (.unp d off) with
  | some st'=>q st' a
  | none=>False
def PW:St→List wy→AT→KS→Prop
 | st,[],a,q=>q st a
 | st,p::ps,a,q=>xH E st p a fun st a=>PW st ps a q
abbrev KX:=bh→St→AT→Prop
noncomputable def cW:AC→St→AT→KX→Prop
 | .sk,st,a,q=>q .nrm st a
 | .rg pre ops kf kb,st,a,q=>PW E st pre a fun st a=>D0 G Ω E kf kb st ops a fun st a=>q .nrm st a
 | .dg pre mks ops kf kb,st,a,q=>PW E st pre a fun st a=>(mks.all (jg E.dp st)&&ops.all (lM E.dp st))=true∧(D1 G Ω E kf kb st ops a fun st a=>q .nrm st a)
 | .sq x y,st,a,q=>cW x st a fun e st a=>match e with
  | .nrm=>cW y st a q
  | e=>q e st a
 | .ite c x y,st,a,q=>match st.ev c with
  | .b z=>Hc a fun w a=>z=w∧(match w with
   | true=>cW x st a q
   | false=>cW y st a q)
  | _=>False
 | .bl id x,st,a,q=>cW x st a fun e st a=>match e with
  | .ex id'=>if id'=id then q .nrm st a else q (.ex id') st a
  | e=>q e st a
 | .lp (.kp kf kb x),st,a,q=>PJ a fun e st' a=>run G Ω E (.lp (.kp kf kb x)) (st.bB kf kb)=some (e,st')∧q e st' a
 | .lp x,st,a,q=>PJ a fun e st' a=>run G Ω E (.lp x) st=some (e,st')∧q e st' a
 | .ex id,st,a,q=>q (.ex id) st a
 | .rt,st,a,q=>q .ret st a
 | .bad,_,_,_=>False
 | .ru g x y b,st,a,q=>PJ a fun e st' a=>run G Ω E (.ru g x y b) st=some (e,st')∧q e st' a
 | .kp kf kb x,st,a,q=>match a with
  | .fb b=>jU b fun b=>match b with
   | .co (.fr e st') r=>run G Ω E x (st.bB kf kb)=some (e,st')∧q e st' r
   | _=>False
  | _=>cW x (st.bB kf kb) a q
def Hq(st:St)(x:AV)(a:AT)(q:AV→AT→Prop):Prop:=
 match x with
 | .o t es=>q (.l t es) a
 | .r (.s d)=>pg E st (.s d) a fun t es a=>q (.l t es) a
 | .r (.c k off)=>k.dp=E.dp∧(pg E st (.c k off) a fun t es a=>q (.l t es) a)
 | .v (.s d) lo len=>pg E st (.s d) a fun t es a=>yl a fun C a=>lo+len≤es.length∧(es.drop lo).take len=C∧q (.l t C) a
 | .v (.c _ _) _ _=>False
 | .q _ _ _ _=>False
 | .w _ _ _=>False
 | .ag _ _=>False
 | .bp _ _ _=>False
 | x=>q x a
def PX(st:St):List AV→AT→(List AV→AT→Prop)→Prop
 | [],a,q=>q [] a
 | x::xs,a,q=>Hq E st x a fun y a=>PX st xs a fun ys a=>q (y::ys) a
def PY(st:St)(z:RV)(a:AT)(q:AV→AT→Prop):Prop:=
 match z with
 | .t n=>Hq E st (az st.fr n) a q
 | .r _=>False
 | .c n sz=>match az st.fr n with
  | .p k off=>k.dp=E.dp∧(match aZ st.bx k.d with
   | some cs=>match pick sz off cs with
    | some (.a ds)=>PX E st ds a fun ds a=>q (.a ds) a
    | some y=>Hq E st y a q
    | none=>False
   | none=>False)
  | _=>False
def TJ(st:St):List RV→AT→(List AV→Prop)→Prop
 | [],_,q=>q []
 | z::zs,a,q=>PY E st z a fun y a=>TJ st zs a fun ys=>q (y::ys)
noncomputable def L2(fn:bL)(ys:List AV)(hp:HP)(a:AT)(q:List AV→HP→Prop):Prop:=
 cW G Ω E fn.code ⟨kq 0 ys,[],hp⟩ a fun e st _=>match e with
  | .ex _=>False
  | _=>match fn.res with
   | [.t n]=>match az st.fr n with
    | .p k 0=>k.dp=E.dp∧(match aZ st.bx k.d with
     | some cs=>(cs.all s9)=true∧q cs st.hp
     | none=>False)
    | _=>False
   | _=>False
noncomputable def PZ(fn:bL)(ys:List AV)(hp:HP)(a:AT)(q:AV→HP→Prop):Prop:=
 cW G Ω E fn.code ⟨kq 0 ys,[],hp⟩ a fun e st a=>match e with
  | .ex _=>False
  | _=>TJ E st fn.res a fun xs=>iO (AV.bJ xs) (q (CX xs) st.hp)
end
section
variable {G:qG}{Ω:dK}{E:Env}
theorem Vh{st:St}{g:dx}{q:KS}(h:gW G Ω E st g a q):∃ st' r,ix (call G Ω) Ω E st g=some st'∧q st' r:=by
 unfold gW at h
 split at h
 ·rename_i hg
  obtain ⟨x,st',r,h1,h2⟩:=LA h
  grind [ix]
 ·rename_i j want hg
  split at h
  ·rename_i x hx
   obtain ⟨y,r,rfl,h⟩:=wC h
   split at h
   ·rename_i hy
    obtain ⟨x',st',r,h1,h2⟩:=LA h
    grind [ix,xm]
   grind [ix,xm]
  ·grind [ix,xm]
  ·exact h.elim
theorem L3{st:St}{p:bR}{q:KS}(h:PV G Ω E st p a q):∃ P r,jL (call G Ω) Ω E p (view p st)=some P∧q (P.app st) r:=by
 obtain ⟨h0,h⟩:=c9 h
 obtain ⟨h1,h⟩:=NQ h
 obtain ⟨x,st',r,h2,h3,h4⟩:=LA h
 grind [jL]
theorem afv{st:St}{p:bR}{q:KS}(h:dW G Ω E st p a q):∃ st' r,eH (call G Ω) Ω E st p=some st'∧q st' r:=by
 unfold dW at h
 split at h
 ·rename_i V
  split at h
  ·grind [L3,eH,eG]
  ·rename_i j want hg
   split at h
   ·rename_i x hx
    obtain ⟨y,r,rfl,h⟩:=wC h
    split at h
    ·grind [L3,eH,eG,xm]
    grind [eH,eG,xm]
   ·grind [eH,eG,xm]
   ·exact h.elim
 grind [Vh,eH]
theorem IK{kf kb:List Nat} : ∀ {gs:List dx}{st:St}{a:AT}{q:KS},D0 G Ω E kf kb st gs a q→∃ st' r,AF G Ω E kf kb gs st=some st'∧q st' r
 | [],st,a,q,h=>⟨_,a,rfl,h⟩
 | g::gs,st,a,q,h=>by
  have key:∀ a',(gW G Ω E st g a' fun st a=>D0 G Ω E kf kb st gs a q)→∃ st' r,AF G Ω E kf kb (g::gs) st=some st'∧q st' r:=by
   intro a' h
   obtain ⟨st1,r1,h1,h2⟩:=Vh h
   obtain ⟨st2,r2,h3,h4⟩:=IK h2
   grind [AF,iL]
  unfold D0 at h
  split at h
  ·split at h
   ·obtain ⟨b,h⟩:=fN h
    grind
   ·exact key _ h
  ·exact key _ h
theorem IL{kf kb:List Nat} : ∀ {gs:List bR}{st:St}{a:AT}{q:KS},D1 G Ω E kf kb st gs a q→∃ st' r,DZ G Ω E kf kb gs st=some st'∧q st' r
 | [],st,a,q,h=>⟨_,a,rfl,h⟩
 | g::gs,st,a,q,h=>by
  have key:∀ a',(dW G Ω E st g a' fun st a=>D1 G Ω E kf kb st gs a q)→∃ st' r,DZ G Ω E kf kb (g::gs) st=some st'∧q st' r:=by
   intro a' h
   obtain ⟨st1,r1,h1,h2⟩:=afv h
   obtain ⟨st2,r2,h3,h4⟩:=IL h2
   grind [DZ,kM]
  unfold D1 at h
  split at h
  ·split at h
   ·obtain ⟨b,h⟩:=fN h
    grind
   ·exact key _ h
  ·exact key _ h
theorem TK{st:St}{p:wy}{q:KS}(h:xH E st p a q):∃ st' r,iM E st p=some st'∧q st' r:=by
 cases p with
 | own d t=>
  grind [xH,iM]
 | fz d=>
  grind [xH,iM]
 | ownC d off t=>
  simp only [xH] at h
  split at h
  ·rename_i k o hx
   obtain ⟨D,h⟩:=h
   obtain ⟨cs,r,h1,h2⟩:=xY h
   split at h2
   ·rename_i hc
    obtain ⟨r',h3⟩:=rj h2
    grind [iM,xZ]
   ·grind [iM,xZ]
   ·exact h2.elim
  ·exact h.elim
 | fzC d off=>
  simp only [xH] at h
  split at h
  ·rename_i k o hx
   obtain ⟨D,h⟩:=h
   obtain ⟨cs,r,h1,h2⟩:=xY h
   split at h2
   ·rename_i t es hc
    obtain ⟨r',h3⟩:=rj h2
    grind [iM,xZ]
   ·exact h2.elim
  ·exact h.elim
 | fzB d agg=>
  simp only [xH] at h
  split at h
  ·rename_i k hx
   obtain ⟨h1,h⟩:=h
   split at h
   ·grind [c9,iM]
   ·exact h.elim
  ·exact h.elim
 | sg d off nd sz=>
  grind [xH]
 | unp d off=>
  grind [xH]
theorem IM:∀ {ps:List wy}{st:St}{a:AT}{q:KS},PW E st ps a q→∃ st' r,sw E st ps=some st'∧q st' r
 | [],st,a,q,h=>⟨st,a,rfl,h⟩
 | p::ps,st,a,q,h=>by
  obtain ⟨st1,r1,h1,h2⟩:=TK h
  obtain ⟨st2,r2,h3,h4⟩:=IM h2
  grind [sw]
theorem vP:∀ (c:AC){st:St}{a:AT}{q:KX},cW G Ω E c st a q→∃ e st' r,run G Ω E c st=some (e,st')∧q e st' r
 | .sk,st,a,q,h=>by grind [eo,cW]
 | .rg pre ops kf kb,st,a,q,h=>by
  simp only [cW] at h
  obtain ⟨st1,r1,h1,h2⟩:=IM h
  obtain ⟨st2,r2,h3,h4⟩:=IK h2
  obtain ⟨st3,h5,rfl⟩:=ew.1 h3
  grind [yk]
 | .dg pre mks ops kf kb,st,a,q,h=>by
  simp only [cW] at h
  obtain ⟨st1,r1,h1,h0,h2⟩:=IM h
  obtain ⟨st2,r2,h3,h4⟩:=IL h2
  obtain ⟨st3,h5,rfl⟩:=ew.1 h3
  grind [GX]
 | .sq x y,st,a,q,h=>by
  simp only [cW] at h
  obtain ⟨e,st1,r1,h1,h2⟩:=vP x h
  cases e with
  | nrm=>
   obtain ⟨e,st2,r2,h3,h4⟩:=vP y h2
   exact ⟨e,st2,r2,by rw [nq,h1];exact h3,h4⟩
  | ex id=>exact ⟨_,_,r1,by rw [nq,h1];rfl,h2⟩
  | ret=>exact ⟨_,_,r1,by rw [nq,h1];rfl,h2⟩
 | .ite c x y,st,a,q,h=>by
  simp only [cW] at h
  split at h
  ·rename_i z hc
   obtain ⟨w,r,rfl,h⟩:=wC h
   cases z with
   | true=>
    obtain ⟨e,st1,r1,h1,h2⟩:=vP x h
    exact ⟨e,st1,r1,by rw [run_ite,hc];exact h1,h2⟩
   | false=>
    obtain ⟨e,st1,r1,h1,h2⟩:=vP y h
    exact ⟨e,st1,r1,by rw [run_ite,hc];exact h1,h2⟩
  ·exact h.elim
 | .bl id x,st,a,q,h=>by
  simp only [cW] at h
  obtain ⟨e,st1,r1,h1,h2⟩:=vP x h
  grind [qI,inBlock]
 | .lp x,st,a,q,h=>by
  cases x with
  | kp kf kb x=>
   simp only [cW] at h
   obtain ⟨e,st1,r1,h1,h2⟩:=IA h
   refine ⟨e,st1,r1,?_,h2⟩
   exact (mg G Ω E ⟨kf,kb,x⟩ st).trans h1
  | _=>
   simp only [cW] at h
   obtain ⟨e,st1,r1,h1,h2⟩:=IA h
   exact ⟨e,st1,r1,h1,h2⟩
 | .ex id,st,a,q,h=>by grind [mw,cW]
 | .ru g x y b,st,a,q,h=>by
  grind [cW,IA]
 | .rt,st,a,q,h=>by grind [iN,cW]
 | .kp kf kb x,st,a,q,h=>by
  unfold cW at h
  split at h
  ·obtain ⟨b,h⟩:=fN h
   grind [kC]
  ·obtain ⟨e,st1,r1,h1,h2⟩:=vP x h
   grind [kC]
theorem F5{st:St}{x:AV}{q:AV→AT→Prop}(h:Hq E st x a q):∃ y r,st.rV E.dp x=some y∧q y r:=by
 unfold Hq at h
 grind [kO,St.rV,nu]
theorem L4{st:St} : ∀ {xs:List AV}{a:AT}{q:List AV→AT→Prop},PX E st xs a q→∃ ys r,st.Ix E.dp xs=some ys∧q ys r
 | [],a,q,h=>⟨[],a,rfl,h⟩
 | x::xs,a,q,h=>by
  obtain ⟨y,r,h1,h2⟩:=F5 h
  obtain ⟨ys,r2,h3,h4⟩:=L4 h2
  grind [St.Ix]
theorem TL{st:St}{z:RV}{q:AV→AT→Prop}(h:PY E st z a q):∃ y r,st.Ar E z=some y∧q y r:=by
 cases z with
 | t n=>exact F5 h
 | r n=>exact h.elim
 | c n sz=>
  simp only [PY] at h
  split at h
  ·rename_i k off hx
   obtain ⟨h0,h⟩:=h
   split at h
   ·rename_i cs hb
    split at h
    ·grind [L4,St.Ar]
    ·grind [F5,St.Ar]
    ·exact h.elim
   ·exact h.elim
  ·exact h.elim
theorem IN{st:St} : ∀ {zs:List RV}{a:AT}{q:List AV→Prop},TJ E st zs a q→∃ xs,st.sd E zs=some xs∧q xs
 | [],a,q,h=>⟨[],rfl,h⟩
 | z::zs,a,q,h=>by
  obtain ⟨y,r,h1,h2⟩:=TL h
  obtain ⟨ys,h3,h4⟩:=IN h2
  grind [St.sd]
theorem TM{f:FuncId}{fn:bL}{ys:List AV}{hp:HP}{q:AV→HP→Prop}(hG:G f=some fn)(a:AT)(h:PZ G Ω E fn ys hp a q):∃ x H,call G Ω E f ys hp=some (.ret x,H)∧q x H:=by
 obtain ⟨e,st,r,h1,h2⟩:=vP fn.code h
 cases e with
 | ex id=>exact h2.elim
 | nrm=>
  obtain ⟨xs,h3,h4⟩:=IN h2
  grind [c9,pP,St.end_,St.result]
 | ret=>
  obtain ⟨xs,h3,h4⟩:=IN h2
  grind [c9,pP,St.end_,St.result]
theorem acW{st:St}{rs:List RV}{n:Nat}{k:Key}(h1:rs=[.t n])(h2:az st.fr n= .p k 0)(h3:k.dp=E.dp)(h4:aZ st.bx k.d=some cs)(h5:cs.all s9=true):st.end_ E rs=some (.new cs):=by
 simp_all [St.result,St.sd,St.Ar,St.rV,AV.bJ,AV.pure,St.end_,St.mN]
theorem RX{f:FuncId}{fn:bL}{ys:List AV}{hp:HP}{q:List AV→HP→Prop}(hG:G f=some fn)(a:AT)(h:L2 G Ω E fn ys hp a q):∃ cs H,call G Ω E f ys hp=some (.new cs,H)∧q cs H:=by
 obtain ⟨e,st,r,h1,h2⟩:=vP fn.code h
 have key:∀ {P:Prop},(match fn.res with
   | [.t n]=>match az st.fr n with
    | .p k 0=>k.dp=E.dp∧(match aZ st.bx k.d with
     | some cs=>(cs.all s9)=true∧q cs st.hp
     | none=>False)
    | _=>False
   | _=>False)→(∀ cs,st.end_ E fn.res=some (.new cs)→q cs st.hp→P)→P:=by
  grind [acW]
 cases e with
 | ex id=>exact h2.elim
 | nrm=>exact key h2 (by grind [pP])
 | ret=>exact key h2 (by grind [pP])
theorem acX{R:Type}{f:FuncId}{fn:bL}{ys:List AV}{hp:HP}{Y:R→bA×HP}{r:R}{T:Prop}(hG:G f=some fn)(a:AT)(h:T)(he:T=L2 G Ω E fn ys hp a fun y h=>(bA.new y,h)=Y r):call G Ω E f ys hp=some (Y r):=by
 obtain ⟨y,h',h1,h2⟩:=RX hG a (he▸h)
 grind
theorem afw{R:Type}{f:FuncId}{fn:bL}{ys:List AV}{hp:HP}{Y:R→bA×HP}{r:R}{T:Prop}(hG:G f=some fn)(a:AT)(h:T)(he:T=PZ G Ω E fn ys hp a fun y h=>(bA.ret y,h)=Y r):call G Ω E f ys hp=some (Y r):=by
 obtain ⟨y,h',h1,h2⟩:=TM hG a (he▸h)
 grind
theorem runT{R:Type}{c:AC}{st:St}{Y:R→bh×St}{r:R}{T:Prop}(a:AT)(h:T)(he:T=cW G Ω E c st a fun e s _=>(e,s)=Y r):run G Ω E c st=some (Y r):=by
 grind [vP]
theorem afx{R:Type}{kf kb:List Nat}{gs:List dx}{st:St}{Y:R→St}{r:R}{T:Prop}(a:AT)(h:T)(he:T=D0 G Ω E kf kb st gs a fun s _=>s=Y r):AF G Ω E kf kb gs st=some (Y r):=by
 grind [IK]
theorem afy{R:Type}{kf kb:List Nat}{gs:List bR}{st:St}{Y:R→St}{r:R}{T:Prop}(a:AT)(h:T)(he:T=D1 G Ω E kf kb st gs a fun s _=>s=Y r):DZ G Ω E kf kb gs st=some (Y r):=by
 grind [IL]
def Vi(kf kb:List Nat):bh→St→St⊕(bh×St)
 | .nrm,s=>.inl (s.bB kf kb)
 | e,s=>.inr (e,s)
theorem ai{a b:Prop}(x:a)(y:b):a∧b:=⟨x,y⟩
theorem tt:true=true:=rfl
theorem gf:(false==true)=false:=rfl
theorem ht:(true==false)=false:=rfl
theorem hf:(false==false)=true:=rfl
abbrev W(w:List AV)(n:Nat):AV:=w.getD n .u
abbrev bt(r:AT):AT:=.co (.b true) r
abbrev bf(r:AT):AT:=.co (.b false) r
abbrev ao(x:Ou)(r:AT):AT:=.co x r
theorem ff:false=false:=rfl
end
end Go.Proofs.YtlmphbbhaeampaaGreat.A
