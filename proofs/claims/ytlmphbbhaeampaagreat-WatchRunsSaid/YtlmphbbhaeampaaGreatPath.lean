/- Paths: what is told of a run (which way it goes, what an element is, what a call answers) gives what must be shown, and nothing else; all else is reckoned. -/
import Derived.Test.YtlmphbbhaeampaaGreatAbs3
import Derived.Test.YtlmphbbhaeampaaGreatAbsQ
import Derived.KernelRfl
set_option linter.all false
namespace Go.Proofs.YtlmphbbhaeampaaGreat.A
open Go
inductive R4 where
 | b (x:Bool)
 | n (x:Nat)
 | i (x:Int)
 | v (x:AV)
 | l (es:List AV)
 | s (x:List UInt8)
 | h (hp:HP)
 | bx (bs:List (Nat×List AV))
 | lp (e:bc) (st:St)
 | fr (e:bc) (st:St)
 | jn (st:St)
inductive AT:Type 1 where
 | nil
 | no
 | co (x:R4) (r:AT)
 | or (a b:AT)
 | ex {α:Type} (f:α→AT)
 | jb (d:Option Nat) (n:Nat) (b:AT)
 | fb (b:AT)
def kB:AT→(AT→Prop)→Prop
 | .or a b,k=>kB a k∨kB b k
 | .ex f,k=>∃ x,kB (f x) k
 | .no,_=>False
 | a,k=>k a
theorem gx{k:AT→Prop} : ∀ {a:AT},kB a k→∃ b,k b
 | .or a b,h=>by
  rw [kB] at h
  rcases h with h | h
  ·exact gx h
  ·exact gx h
 | .ex f,h=>by
  rw [kB] at h
  obtain ⟨x,h⟩:=h
  exact gx h
 | .no,h=>h.elim
 | .nil,h=>⟨_,h⟩
 | .co _ _,h=>⟨_,h⟩
 | .jb _ _ _,h=>⟨_,h⟩
 | .fb _,h=>⟨_,h⟩
def Kh(a:AT)(k:Bool→AT→Prop):Prop:=kB a fun a=>match a with
 | .co (.b x) r=>k x r
 | _=>False
def tkN(a:AT)(k:Nat→AT→Prop):Prop:=kB a fun a=>match a with
 | .co (.n x) r=>k x r
 | _=>False
def ID(a:AT)(k:Int→AT→Prop):Prop:=kB a fun a=>match a with
 | .co (.i x) r=>k x r
 | _=>False
def O0(a:AT)(k:AV→AT→Prop):Prop:=kB a fun a=>match a with
 | .co (.v x) r=>k x r
 | _=>False
def Cj(a:AT)(k:List AV→AT→Prop):Prop:=kB a fun a=>match a with
 | .co (.l x) r=>k x r
 | _=>False
def tkS(a:AT)(k:List UInt8→AT→Prop):Prop:=kB a fun a=>match a with
 | .co (.s x) r=>k x r
 | _=>False
def R5(a:AT)(k:HP→AT→Prop):Prop:=kB a fun a=>match a with
 | .co (.h x) r=>k x r
 | _=>False
def agM(a:AT)(k:List (Nat×List AV)→AT→Prop):Prop:=kB a fun a=>match a with
 | .co (.bx x) r=>k x r
 | _=>False
def Tf(a:AT)(k:bc→St→AT→Prop):Prop:=kB a fun a=>match a with
 | .co (.lp e st) r=>k e st r
 | _=>False
def jM(b:Bool)(p:Prop):Prop:=match b with
 | true=>p
 | false=>False
variable {a:AT}
theorem ze{k:Bool→AT→Prop}(h:Kh a k):∃ x r,k x r:=by
 obtain ⟨b,h⟩:=gx h
 grind
theorem Vi{k:Nat→AT→Prop}(h:tkN a k):∃ x r,k x r:=by
 obtain ⟨b,h⟩:=gx h
 grind
theorem vT{k:Int→AT→Prop}(h:ID a k):∃ x r,k x r:=by
 obtain ⟨b,h⟩:=gx h
 grind
theorem DB{k:AV→AT→Prop}(h:O0 a k):∃ x r,k x r:=by
 obtain ⟨b,h⟩:=gx h
 grind
theorem pg{k:List AV→AT→Prop}(h:Cj a k):∃ x r,k x r:=by
 obtain ⟨b,h⟩:=gx h
 grind
theorem Vj{k:List UInt8→AT→Prop}(h:tkS a k):∃ x r,k x r:=by
 obtain ⟨b,h⟩:=gx h
 grind
theorem Gh{k:HP→AT→Prop}(h:R5 a k):∃ x r,k x r:=by
 obtain ⟨b,h⟩:=gx h
 grind
theorem ZG{k:List (Nat×List AV)→AT→Prop}(h:agM a k):∃ x r,k x r:=by
 obtain ⟨b,h⟩:=gx h
 grind
theorem LZ{k:bc→St→AT→Prop}(h:Tf a k):∃ e st r,k e st r:=by
 obtain ⟨b,h⟩:=gx h
 grind
theorem dP{b:Bool}{p:Prop}(h:jM b p):b=true∧p:=by
 cases b with
 | true=>exact ⟨rfl,h⟩
 | false=>exact h.elim
def O1(x:AV)(a:AT)(k:Nat→AT→Prop):Prop:=match x with
 | .i _ n=>tkN a fun j r=>n=(j:Int)∧k j r
 | _=>False
theorem L0{x:AV}{k:Nat→AT→Prop}(h:O1 x a k):∃ j r,sV x=some j∧k j r:=by
 unfold O1 at h;grind [Vi,sV]
def IW(E:Env)(st:St)(k:Key)(a:AT)(q:List AV→AT→Prop):Prop:=
 Kh a fun own r=>match own with
  | true=>k.dp=E.dp∧(match bH st.bx k.d with
   | some cs=>q cs r
   | none=>False)
  | false=>Cj r fun cs r=>k.dp≠E.dp∧st.hp k=some cs∧q cs r
theorem AD{E:Env}{st:St}{k:Key}{q:List AV→AT→Prop}(h:IW E st k a q):∃ cs r,st.box E.dp k=some cs∧q cs r:=by
 obtain ⟨own,r,h⟩:=ze h
 grind [St.box,pg]
def xL(E:Env)(st:St)(k:Key)(cs:List AV)(a:AT)(q:St→AT→Prop):Prop:=
 Kh a fun own r=>match own with
  | true=>k.dp=E.dp∧q {st with bx:=nO st.bx k.d cs} r
  | false=>R5 r fun hp r=>k.dp≠E.dp∧ar st.hp k cs=hp∧q {st with hp:=hp} r
variable {cs:List AV}
theorem sY{E:Env}{st:St}{k:Key}{q:St→AT→Prop}(h:xL E st k cs a q):∃ r,q (st.bI E.dp k cs) r:=by
 obtain ⟨own,r,h⟩:=ze h
 grind [St.bI,Gh]
def qf(E:Env)(st:St)(pl:Pl)(a:AT)(q:TypeId→List AV→AT→Prop):Prop:=
 match pl with
 | .s d=>match aQ st.fr d with
  | .o t es=>q t es a
  | _=>False
 | .c k off=>IW E st k a fun cs r=>match cs[off]? with
  | some (.o t es)=>q t es r
  | _=>False
variable {pl:Pl}
theorem lD{E:Env}{st:St}{q:TypeId→List AV→AT→Prop}(h:qf E st pl a q):∃ t es r,st.rowAt E.dp pl=some (t,es)∧q t es r:=by
 unfold qf at h
 split at h
 ·grind [St.rowAt]
 grind [AD,St.rowAt]
def Gi(E:Env)(st:St)(x:AV)(pl:Pl)(a:AT)(q:St→AT→Prop):Prop:=
 match pl with
 | .s d=>q (st.dA d x) a
 | .c k off=>IW E st k a fun cs r=>xL E st k (cs.set off x) r q
theorem Gj{E:Env}{st:St}{x:AV}{q:St→AT→Prop}(h:Gi E st x pl a q):∃ st' r,st.putAt E.dp x pl=some st'∧q st' r:=by
 unfold Gi at h
 split at h
 ·exact ⟨_,a,rfl,h⟩
 ·obtain ⟨cs,r,h1,h2⟩:=AD h
  obtain ⟨r',h3⟩:=sY h2
  grind [St.putAt]
def HI(sz:Nat)(es:List AV)(j:Nat)(a:AT)(q:AV→AT→Prop):Prop:=O0 a fun e r=>es[j]? =some e∧jM (e.nc==sz) (q e r)
variable {sz:Nat}{es:List AV}{j:Nat}
theorem AU{q:AV→AT→Prop}(h:HI sz es j a q):∃ e r,es[j]? =some e∧e.nc=sz∧q e r:=by
 obtain ⟨e,r,h1,h2⟩:=DB h
 grind [dP]
theorem AE{E:Env}(h:E.ro=false)(pl:Pl):pl.kq E=true:=by cases pl<;>simp [Pl.kq,h]
def WV(E:Env):Pl→Prop
 | .s _=>(false:Bool)=false
 | .c _ _=>E.ro=false
theorem R6{E:Env} : ∀ {pl:Pl},WV E pl→pl.kq E=true
 | .s _,_=>rfl
 | .c _ _,h=>AE h _
def Ki(E:Env)(st:St)(x:AV)(a:AT)(q:TypeId→List AV→AT→Prop):Prop:=
 match x with
 | .l t es=>q t es a
 | .n=>q 0 [] a
 | .o t es=>q t es a
 | .r pl=>qf E st pl a q
 | .v pl lo len=>qf E st pl a fun t es r=>Cj r fun B r=>lo+len≤es.length∧(es.drop lo).take len=B∧q t B r
 | _=>False
theorem Nw{E:Env}{st:St}{x:AV}{q:TypeId→List AV→AT→Prop}(h:Ki E st x a q):∃ t es r,st.elems E.dp x=some (t,es)∧q t es r:=by
 unfold Ki at h
 grind [lD,pg,St.elems]
def Ai(E:Env)(st:St):List AV→AT→(List AV→List TypeId→AT→Prop)→Prop
 | [],a,q=>q [] [] a
 | x::xs,a,q=>(match x with
  | .o t es=>Ai E st xs a fun ys ts r=>q (.l t es::ys) ([t]++ts) r
  | .r pl=>qf E st pl a fun t es r=>Ai E st xs r fun ys ts r=>q (.l t es::ys) ([t]++ts) r
  | .v pl lo len=>qf E st pl a fun t es r=>Cj r fun B r=>lo+len≤es.length∧(es.drop lo).take len=B∧Ai E st xs r fun ys ts r=>q (.l t B::ys) ([t]++ts) r
  | .w _ t x=>Ai E st xs a fun ys ts r=>q (x::ys) ([t]++ts) r
  | x=>jM x.pure (Ai E st xs a fun ys ts r=>q (x::ys) ([]++ts) r))
theorem vc{E:Env}{st:St} : ∀ {xs:List AV}{a:AT}{q:List AV→List TypeId→AT→Prop},Ai E st xs a q→∃ ys ts r,st.fK E.dp xs=some (ys,ts)∧q ys ts r
 | [],a,q,h=>⟨[],[],a,rfl,h⟩
 | x::xs,a,q,h=>by
  unfold Ai at h
  split at h
  ·obtain ⟨ys,ts,r,h1,h2⟩:=vc h
   grind [St.fK,St.m8]
  ·obtain ⟨t,es,r,h1,h2⟩:=lD h
   obtain ⟨ys,ts,r,h3,h4⟩:=vc h2
   grind [St.fK,St.m8]
  ·obtain ⟨t,es,r,h1,h2⟩:=lD h
   obtain ⟨B,r,h3,h4,h5⟩:=pg h2
   obtain ⟨ys,ts,r,h6,h7⟩:=vc h5
   grind [St.fK,St.m8]
  ·obtain ⟨ys,ts,r,h1,h2⟩:=vc h
   grind [St.fK,St.m8]
  ·rename_i h1 h2 h3 hw
   obtain ⟨h4,h5⟩:=dP h
   obtain ⟨ys,ts,r,h6,h7⟩:=vc h5
   refine ⟨_,_,r,?_,h7⟩
   have:st.m8 E.dp x=some (x,[]):=by
    unfold St.m8
    grind [AV.pure]
   simp [St.fK,this,h6]
abbrev KW:=AV→St→AT→Prop
section
variable (G:sd)(Ω:ej)(E:Env)(st:St)(d:Option Nat)
def iaW(sz:Nat)(arr:Option Nat)(x:AV)(xo:bY)(j:Nat)(a:AT)(k:KW):Prop:=
 match arr with
 | some len=>j<len∧(match x with
  | .p kk o=>k (.p kk (o+j*sz)) st a
  | .e y o=>k (.e y (o+j*sz)) st a
  | _=>False)
 | none=>match x with
  | .l _ es=>HI sz es j a fun e r=>k (.e e 0) st r
  | .o _ es=>match xo with
   | .t m=>HI sz es j a fun _ r=>k (.q (.s m) j sz 0) st r
   | .c _=>False
  | .r pl=>qf E st pl a fun _ es r=>HI sz es j r fun _ r=>k (.q pl j sz 0) st r
  | .v pl lo len=>qf E st pl a fun _ es r=>j<len∧lo+len≤es.length∧(HI sz es (lo+j) r fun _ r=>k (.q pl (lo+j) sz 0) st r)
  | _=>False
def WX(E:Env)(k:Key):Prop:=match E.ro with
 | false=>false=false
 | true=>k.dp=E.dp
theorem Tg{E:Env}{k:Key}(h:WX E k)(off:Nat):(Pl.c k off).kq E=true:=by
 unfold WX at h
 cases hr:E.ro with
 | false=>exact AE hr _
 | true=>rw [hr] at h;simp [Pl.kq,h]
def boW(op:BinOp)(bl:Bool)(x y:AV)(a:AT)(k:KW):Prop:=
 match x,y with
 | .i ki m,.i ki' n=>if ki=ki' then
   match op with
   | .add=>ID a fun r a=>ki.wrap (m+n)=r∧k (.i ki r) st a
   | .sub=>ID a fun r a=>ki.wrap (m - n)=r∧k (.i ki r) st a
   | .mul=>ID a fun r a=>ki.wrap (m*n)=r∧k (.i ki r) st a
   | .quo=>ID a fun r a=>n≠0∧ki.wrap (m.tdiv n)=r∧k (.i ki r) st a
   | .rem=>ID a fun r a=>n≠0∧m.tmod n=r∧k (.i ki r) st a
   | .or=>ID a fun r a=>(if n>m then n else m)=r∧k (.i ki r) st a
   | .eql=>k (.b (m==n)) st a
   | .neq=>k (.b (m !=n)) st a
   | .lss=>k (.b (decide (m<n))) st a
   | .leq=>k (.b (decide (m≤n))) st a
   | .gtr=>k (.b (decide (n<m))) st a
   | .geq=>k (.b (decide (n≤m))) st a
   | _=>False
  else False
 | .b m,.b n=>match bl,op with
  | true,.eql=>k (.b (m==n)) st a
  | true,.neq=>k (.b (!(m==n))) st a
  | _,_=>False
 | .s m,.s n=>match op with
  | .add=>tkS a fun r a=>m.length+n.length≤4611686018427387904∧m++n=r∧k (.s r) st a
  | .eql=>k (.b (m==n)) st a
  | .neq=>k (.b (!(m==n))) st a
  | _=>False
 | _,_=>False
def ldW(n:Option Nat)(x:AV)(a:AT)(k:KW):Prop:=
 match x with
 | .p kk off=>IW E st kk a fun cs a=>match pick n off cs with
  | some (.o _ _)=>k (.r (.c kk off)) st a
  | some y=>jM y.copy (k y st a)
  | none=>False
 | .e x off=>match pick n off x.cl with
  | some y=>k y st a
  | none=>False
 | .q pl i sz off=>qf E st pl a fun _ es a=>HI sz es i a fun e a=>match pick n off e.cl with
  | some y=>k y st a
  | none=>False
 | _=>False
def stW(n:Nat)(x y:AV)(yo:bY)(a:AT)(k:KW):Prop:=
 match x with
 | .p kk off=>WX E kk∧(IW E st kk a fun cs a=>match y with
  | .o t es=>match yo with
   | .t m=>jM (n==1&&decide (off<cs.length)) (xL E ((st.dA m .u).ct (.c kk off)) kk (cs.set off (.o t es)) a fun st' a=>k .u st' a)
   | .c _=>False
  | .v pl lo len=>pl= .c kk off∧jM (lo==0&&n==1) (qf E st pl a fun t es a=>Cj a fun B a=>len≤es.length∧es.take len=B∧(xL E (st.ct (.c kk off)) kk (cs.set off (.o t B)) a fun st' a=>k .u st' a))
  | y=>y.deep kk.dp=true∧jM (y.copy&&y.nc==n&&y.cl.all AV.one&&decide (off+n≤cs.length)) (xL E st kk (putCells cs off y.cl) a fun st' a=>k .u st' a))
 | .q pl i sz off=>E.ro=false∧(qf E st pl a fun t es a=>O0 a fun e a=>es[i]? =some e∧jM (e.nc==sz&&y.pure&&y.nc==n&&y.cl.all AV.one&&decide (off+n≤sz)) (Cj a fun B a=>es.set i (En e off y.cl)=B∧(Gi E st (.o t B) pl a fun st' a=>k .u st' a)))
 | _=>False
def IX(x:Option AV)(dflt:Nat)(a:AT)(k:Nat→AT→Prop):Prop:=
 match x with
 | none=>k dflt a
 | some y=>O1 y a k
def slW(t sz:Nat)(x:AV)(lo hi:Option AV)(a:AT)(k:KW):Prop:=
 match x with
 | .s l=>IX lo 0 a fun i a=>IX hi l.length a fun j a=>tkS a fun r a=>t=0∧i≤j∧j≤l.length∧(l.take j).drop i=r∧k (.s r) st a
 | .l t' es=>IX lo 0 a fun i a=>IX hi es.length a fun j a=>Cj a fun r a=>t≠0∧es.all (fun e=>e.nc==sz)=true∧i≤j∧j≤es.length∧(es.take j).drop i=r∧k (.l t' r) st a
 | .r pl=>qf E st pl a fun t' es a=>IX lo 0 a fun i a=>IX hi es.length a fun j a=>tkN a fun m a=>jM (t !=0&&t'==t) (i≤j∧j≤es.length∧j - i=m∧k (.v pl i m) st a)
 | _=>False
def IY(t:TypeId)(x:bY)(a:AT)(k:List AV→St→AT→Prop):Prop:=
 match x with
 | .c .n=>k [] st a
 | .c _=>False
 | .t m=>match aQ st.fr m with
  | .n=>k [] st a
  | .o t' es=>jM (t'==t) (k es (st.dA m .u) a)
  | .r pl=>WV E pl∧(qf E st pl a fun t' es a=>jM (t'==t) (Gi E st .u pl a fun st' a=>k es st' a))
  | .v pl lo len=>WV E pl∧jM (lo==0) (qf E st pl a fun t' es a=>Cj a fun B a=>len≤es.length∧t'=t∧es.take len=B∧(Gi E st .u pl a fun st' a=>k B st' a))
  | _=>False
noncomputable def Vk(m:Nat)(f:FuncId)(args:List AV)(a:AT)(k:KW):Prop:=
 match m with
 | 0=>Ai E st args a fun ys ts a=>O0 a fun x a=>call G Ω ⟨0,false⟩ f ys (fun _=>none)=some (.ret x,fun _=>none)∧(match ts with
  | []=>jM x.pure (k x st a)
  | ts=>x.pure=true∧x.off ts=true∧k x st a)
 | 1=>Ai E st args a fun ys ts a=>O0 a fun x a=>Ω f ys=some x∧(match ts with
  | []=>jM x.pure (k x st a)
  | ts=>x.pure=true∧x.off ts=true∧k x st a)
 | _=>False
noncomputable def Vl(f:FuncId)(args:List AV)(a:AT)(k:KW):Prop:=
 match args.all AV.Eo with
 | true=>Vk G Ω E st 0 f args a k
 | false=>E.ro=false∧(st.bx.all fun y=>AV.jJ E.dp y.2)=true∧jM (args.all AV.copy) (O0 a fun x a=>R5 a fun h2 a=>agM a fun bx a=>R5 a fun h3 a=>
  call G Ω ⟨E.dp+1,false⟩ f args (fun kk=>st.box E.dp kk)=some (.ret x,h2)∧qb E.dp h2 st.bx=bx∧(fun kk:Key=>if kk.dp<E.dp then h2 kk else none)=h3∧
  k x ⟨st.fr.map fun y=>(y.1,if pa y.2=true then .u else y.2),bx,h3⟩ a)
noncomputable def c3W(f:FuncId)(args:List AV)(a:AT)(k:KW):Prop:=
 (st.bx.all fun y=>AV.jJ E.dp y.2)=true∧jM (args.all AV.copy) (O0 a fun x a=>R5 a fun h2 a=>call G Ω ⟨E.dp+1,true⟩ f args (fun kk=>st.box E.dp kk)=some (.ret x,h2)∧jM x.pure (k x st a))
noncomputable def ckW(dd:Nat)(f:FuncId)(args:List AV)(a:AT)(k:KW):Prop:=
 jM (AV.cG args) (Cj a fun cs a=>R5 a fun h2 a=>call G Ω ⟨E.dp+1,false⟩ f args (fun _=>none)=some (.new cs,h2)∧(cs.all vu&&Ep E.dp st dd)=true∧k (.p ⟨E.dp,dd⟩ 0) {st with bx:=(dd,cs)::st.bx} a)
noncomputable def rr(a:AT)(o:qI)(k:KW):Prop:=
 match o with
 | .mv x=>match st.ev x with
  | .o _ _=>match x with
   | .t n=>k (.r (.s n)) st a
   | .c _=>False
  | y=>k y st a
 | .as x=>match x with
  | .c y=>jM y.pure (k y st a)
  | .t n=>match aQ st.fr n with
   | .o t es=>match d with
    | some d=>k (.o t es) ((st.dA n .u).ct (.s d)) a
    | none=>False
   | .v pl lo len=>match d with
    | some d=>Kh a fun own a=>match own with
     | true=>pl= .s d∧jM (lo==0) (qf E st pl a fun t es a=>Cj a fun B a=>len≤es.length∧es.take len=B∧k (.o t B) (st.ct (.s d)) a)
     | false=>(pl= .s d→(lo==0)=false)∧k (.v pl lo len) st a
    | none=>False
   | y=>jM (y.copy||HH y) (k y st a)
 | .pk c x y=>match st.ev c with
  | .b z=>Kh a fun w a=>z=w∧(match w with
   | true=>jM (st.ev x).copy (k (st.ev x) st a)
   | false=>jM (st.ev y).copy (k (st.ev y) st a))
  | _=>False
 | .bx x=>match d with
  | some d=>((st.ev x).deep E.dp&&(st.fr.all (fun y=>y.2.dD ⟨E.dp,d⟩)&&st.bx.all (fun y=>AV.jI ⟨E.dp,d⟩ y.2)))=true∧
   jM ((st.ev x).copy&&(st.ev x).cl.all AV.one&&mq st.bx d) (k (.p ⟨E.dp,d⟩ 0) {st with bx:=(d,(st.ev x).cl)::st.bx} a)
  | none=>False
 | .al zs=>match d with
  | some d=>(st.fr.all (fun y=>y.2.dD ⟨E.dp,d⟩)&&st.bx.all (fun y=>AV.jI ⟨E.dp,d⟩ y.2))=true∧jM (mq st.bx d) (k (.p ⟨E.dp,d⟩ 0) {st with bx:=(d,zs)::st.bx} a)
  | none=>False
 | .ld n x=>ldW E st n (st.ev x) a k
 | .st n x y=>stW E st n (st.ev x) (st.ev y) y a k
 | .fa off x=>match st.ev x with
  | .p kk o=>k (.p kk (o+off)) st a
  | .e y o=>k (.e y (o+off)) st a
  | .q pl i sz o=>qf E st pl a fun _ es a=>i<es.length∧k (.q pl i sz (o+off)) st a
  | _=>False
 | .ia sz arr x i=>O1 (st.ev i) a fun j a=>iaW E st sz arr (st.ev x) x j a k
 | .bo op bl x y=>boW st op bl (st.ev x) (st.ev y) a k
 | .no x=>match st.ev x with
  | .b y=>k (.b (!y)) st a
  | _=>False
 | .ae ks ng x y=>match st.ev x,st.ev y with
  | .a xs,.a ys=>Kh a fun r a=>kl ks xs ys=some r∧k (.b (if ng then !r else r)) st a
  | _,_=>False
 | .cv ki x=>match st.ev x with
  | .i _ n=>ID a fun r a=>ki.wrap n=r∧k (.i ki r) st a
  | _=>False
 | .bs t sz es=>match d with
  | some d=>jM ((es.map st.ev).all fun y=>y.pure&&y.cl.all AV.one&&y.nc==sz) (Cj a fun vs a=>es.map st.ev=vs∧k (.o t vs) (st.ct (.s d)) a)
  | none=>False
 | .bd zs fs=>jM (fs.all fun f=>(st.ev f.2.2).copy&&(st.ev f.2.2).nc==f.2.1&&(st.ev f.2.2).cl.all AV.one&&decide (f.1+f.2.1≤zs.length))
   (k (.a (fs.foldl (fun cs f=>putCells cs f.1 (st.ev f.2.2).cl) zs)) st a)
 | .ms t _ by_ x n=>match d with
  | some d=>O1 (st.ev n) a fun n a=>Cj a fun es a=>n*by_≤140737488355328∧n≤maxLen∧List.replicate n x=es∧k (.o t es) (st.ct (.s d)) a
  | none=>False
 | .sl t sz x lo hi=>slW E st t sz (st.ev x) (lo.map st.ev) (hi.map st.ev) a k
 | .ex x i=>match st.ev x with
  | .tp vs=>match vs[i]? with
   | some y=>k y st a
   | none=>False
  | _=>False
 | .mf f C=>jM (AV.sU (C.map st.ev)) (k (.f f (C.map st.ev)) st a)
 | .ca m f args=>Vk G Ω E st m f (args.map st.ev) a k
 | .cf m x args=>match st.ev x with
  | .f f C=>jM (decide (f<1000000)) (Vk G Ω E st m f (args.map st.ev++C) a k)
  | _=>False
 | .c2 f args=>Vl G Ω E st f (args.map st.ev) a k
 | .d2 x args=>match st.ev x with
  | .f f C=>match decide (f<1000000) with
   | true=>Vl G Ω E st f (args.map st.ev++C) a k
   | false=>Vl G Ω E st (f - 1000000) (C++args.map st.ev) a k
  | _=>False
 | .c3 f args=>c3W G Ω E st f (args.map st.ev) a k
 | .ck f args=>match d with
  | some dd=>ckW G Ω E st dd f (args.map st.ev) a k
  | none=>False
 | .cr t f args=>match d with
  | some dd=>jM (AV.cG (args.map st.ev)) (Ω f (args.map st.ev)=some (.o t [])∧k (.o t []) (st.ct (.s dd)) a)
  | none=>False
 | .ln str x=>match st.ev x with
  | .s l=>jM str (ID a fun n a=>(l.length:Int)=n∧k (.i .i64 n) st a)
  | y=>jM (!str) (Ki E st y a fun _ es a=>ID a fun n a=>(es.length:Int)=n∧k (.i .i64 n) st a)
 | .ap t sz by_ x y=>match d with
  | some d=>Ki E st (st.ev y) a fun _ ys a=>IY E st t x a fun es st' a=>Cj a fun r a=>
    ys.all (fun e=>e.nc==sz)=true∧(es.length+ys.length)*by_≤140737488355328∧es.length+ys.length≤maxLen∧es++ys=r∧k (.o t r) (st'.ct (.s d)) a
  | none=>False
 | .nc x=>match st.ev x with
  | .p kk o=>k (.p kk o) st a
  | .e y o=>k (.e y o) st a
  | .f g C=>k (.f g C) st a
  | _=>False
 | .bg zs fs=>jM (fs.all (S8 st zs.length)) (k (.ag (fs.foldl (za st) (zs,[])).1 (fs.foldl (za st) (zs,[])).2) st a)
 | .bxg x=>match d with
  | some dd=>(match st.ev x with
   | .ag cs rs=>jM (cs.all (fun c=>c.copy||Cg c)&&AV.jJ E.dp cs&&Ep E.dp st dd) (match Ch dd {st with bx:=(dd,cs)::st.bx} rs with
    | some st'=>k (.p ⟨E.dp,dd⟩ 0) st' a
    | none=>False)
   | _=>False)
  | none=>False
end
section
variable {G:sd}{Ω:ej}{E:Env}{st:St}{d:Option Nat}
def Told(o:qI)(k:KW)(G:sd)(Ω:ej)(E:Env)(st:St)(d:Option Nat):Prop:=∃ x st' r,execOp (call G Ω) Ω E st d o=some (x,st')∧k x st' r
theorem Told.mk{o:qI}{k:KW}{x:AV}{st':St}{r:AT}(h:execOp (call G Ω) Ω E st d o=some (x,st'))(hk:k x st' r):Told o k G Ω E st d:=⟨x,st',r,h,hk⟩
theorem Ck{e:AV}{f:AV→AV}(h:es[j]? =some e)(hn:e.nc=sz):elemAt sz st es[j]? f=some (f e,st):=by
 rw [h];simp only [elemAt,ab,hn,aH]
theorem agS{op:BinOp}{bl:Bool}{x y:bY}{k:KW}(h:boW st op bl (st.ev x) (st.ev y) a k):Told (.bo op bl x y) k G Ω E st d:=by
 unfold boW at h
 split at h
 ·rename_i ki m ki' n hx hy
  split at h
  ·rename_i K
   subst K
   split at h
   ·obtain ⟨r,a',h1,h2⟩:=vT h
    exact .mk (by simp only [execOp,hx,hy,rp,aH,u6,h1,ab]) h2
   ·obtain ⟨r,a',h1,h2⟩:=vT h
    exact .mk (by simp only [execOp,hx,hy,rp,aH,u6,h1,ab]) h2
   ·obtain ⟨r,a',h1,h2⟩:=vT h
    exact .mk (by simp only [execOp,hx,hy,rp,aH,u6,h1,ab]) h2
   ·obtain ⟨r,a',h0,h1,h2⟩:=vT h
    exact .mk (by simp only [execOp,hx,hy,rp,aH,u6,ah h0,h1,ab]) h2
   ·obtain ⟨r,a',h0,h1,h2⟩:=vT h
    exact .mk (by simp only [execOp,hx,hy,rp,aH,u6,ah h0,h1,ab]) h2
   ·obtain ⟨r,a',h1,h2⟩:=vT h
    exact .mk (by simp only [execOp,hx,hy,rp,aH,u6,h1,ab]) h2
   ·exact .mk (by simp only [execOp,hx,hy,rp,aH,u6,ab]) h
   ·exact .mk (by simp only [execOp,hx,hy,rp,aH,u6,ab]) h
   ·exact .mk (by simp only [execOp,hx,hy,rp,aH,u6,ab]) h
   ·exact .mk (by simp only [execOp,hx,hy,rp,aH,u6,ab]) h
   ·exact .mk (by simp only [execOp,hx,hy,rp,aH,u6,ab]) h
   ·exact .mk (by simp only [execOp,hx,hy,rp,aH,u6,ab]) h
   ·exact h.elim
  ·exact h.elim
 ·rename_i m n hx hy
  split at h
  ·exact .mk (by simp only [execOp,hx,hy,rp,aH,ab]) h
  ·exact .mk (by simp only [execOp,hx,hy,rp,aH,ab]) h
  ·exact h.elim
 ·rename_i m n hx hy
  split at h
  ·obtain ⟨r,a',h0,h1,h2⟩:=Vj h
   exact .mk (by simp only [execOp,hx,hy,rp,af h0,h1,ab]) h2
  ·exact .mk (by simp only [execOp,hx,hy,rp,ab]) h
  ·exact .mk (by simp only [execOp,hx,hy,rp,ab]) h
  ·exact h.elim
 ·exact h.elim
theorem agT{n:Option Nat}{x:bY}{k:KW}(h:ldW E st n (st.ev x) a k):Told (.ld n x) k G Ω E st d:=by
 unfold ldW at h
 split at h
 ·rename_i kk off hx
  obtain ⟨cs,r,h1,h2⟩:=AD h
  split at h2
  ·rename_i t es hp
   exact .mk (by simp only [execOp,hx,h1,hp,ab]) h2
  ·rename_i y hy hp
   obtain ⟨h3,h4⟩:=dP h2
   refine .mk (x:=y) (st':=st) ?_ h4
   simp only [execOp,hx,h1,hp,ab,af h3]
  ·exact h2.elim
 ·rename_i y off hx
  split at h
  ·rename_i z hp
   exact .mk (by simp only [execOp,hx,hp,ab]) h
  ·exact h.elim
 ·rename_i pl i sz off hx
  obtain ⟨t,es,r,h1,h2⟩:=lD h
  obtain ⟨e,r',h3,h4,h5⟩:=AU h2
  split at h5
  ·rename_i z hp
   exact .mk (by simp only [execOp,hx,h1,h3,hp,h4,aH,ab]) h5
  ·exact h5.elim
 ·exact h.elim
theorem agU{n:Nat}{x y:bY}{k:KW}(h:stW E st n (st.ev x) (st.ev y) y a k):Told (.st n x y) k G Ω E st d:=by
 unfold stW at h
 split at h
 ·rename_i kk off hx
  obtain ⟨D,h⟩:=h
  obtain ⟨cs,r,h1,h2⟩:=AD h
  split at h2
  ·rename_i t es hy
   split at h2
   ·rename_i m
    obtain ⟨h3,h4⟩:=dP h2
    obtain ⟨r',h5⟩:=sY h4
    exact .mk (by simp only [execOp,hx,Tg D _,aH,h1,hy,ab,af h3]) h5
   ·exact h2.elim
  ·rename_i pl lo len hy
   obtain ⟨rfl,h2⟩:=h2
   obtain ⟨h3,h4⟩:=dP h2
   obtain ⟨t,es,r1,h5,h6⟩:=lD h4
   obtain ⟨B,r2,h7,rfl,h9⟩:=pg h6
   obtain ⟨r',H⟩:=sY h9
   simp only [aY] at h3
   exact .mk (by simp only [execOp,hx,Tg D _,aH,h1,hy,ab,h3.1,h3.2,kH,rV,xg,h5,af h7,true_and,and_self]) H
  ·rename_i y' M L
   obtain ⟨h0,h2⟩:=h2
   obtain ⟨h3,h4⟩:=dP h2
   obtain ⟨r',h5⟩:=sY h4
   have h6:((st.ev y).copy&&(st.ev y).nc==n&&(st.ev y).cl.all AV.one&&(st.ev y).deep kk.dp&&decide (off+n≤cs.length))=true:=by
    simp only [aY] at h3 ⊢
    exact ⟨⟨h3.1,h0⟩,h3.2⟩
   refine .mk (x:=.u) (st':=st.bI E.dp kk (putCells cs off (st.ev y).cl)) ?_ h5
   simp only [execOp,hx,Tg D _,aH,h1,ab,af h6]
 ·rename_i pl i sz off hx
  obtain ⟨D,h⟩:=h
  obtain ⟨t,es,r,h1,h2⟩:=lD h
  obtain ⟨e,r1,h3,h4⟩:=DB h2
  obtain ⟨h5,h6⟩:=dP h4
  obtain ⟨B,r2,rfl,h8⟩:=pg h6
  obtain ⟨st',r3,h9,H⟩:=Gj h8
  exact .mk (by simp only [execOp,hx,AE D,aH,h1,h3,ab,af h5,h9]) H
 ·exact h.elim
theorem AF{x:Option bY}{dflt:Nat}{k:Nat→AT→Prop}(h:IX (x.map st.ev) dflt a k):∃ j r,qc st x dflt=some j∧k j r:=by
 cases x with
 | none=>exact ⟨dflt,a,rfl,h⟩
 | some y=>
  obtain ⟨j,r,h1,h2⟩:=L0 (x:=st.ev y) h
  exact ⟨j,r,h1,h2⟩
theorem agV{t:Nat}{x:bY}{lo hi:Option bY}{k:KW}(h:slW E st t sz (st.ev x) (lo.map st.ev) (hi.map st.ev) a k):Told (.sl t sz x lo hi) k G Ω E st d:=by
 unfold slW at h
 split at h
 ·rename_i l hx
  obtain ⟨i,r1,h1,h2⟩:=AF h
  obtain ⟨j,r2,h3,h4⟩:=AF h2
  obtain ⟨z,r3,rfl,h5,h6,rfl,h8⟩:=Vj h4
  exact .mk (by simp [execOp,hx,h1,h3,h5,h6]) h8
 ·rename_i t' es hx
  obtain ⟨i,r1,h1,h2⟩:=AF h
  obtain ⟨j,r2,h3,h4⟩:=AF h2
  obtain ⟨z,r3,h0,J,h5,h6,rfl,h8⟩:=pg h4
  exact .mk (by simp only [execOp,hx,h1,h3,ab,J,uW,ne_eq,h0,BZ,h5,h6,rV,Bool.and_true,kH,aH]) h8
 ·rename_i pl hx
  obtain ⟨t',es,r0,hr,h⟩:=lD h
  obtain ⟨i,r1,h1,h2⟩:=AF h
  obtain ⟨j,r2,h3,h4⟩:=AF h2
  obtain ⟨m,r3,h5⟩:=Vi h4
  obtain ⟨h6,h7,h8,rfl,H⟩:=dP h5
  exact .mk (by simp only [execOp,hx,hr,h1,h3,ab,h6,h7,h8,rV,kH,aH]) H
 ·exact h.elim
theorem Re{t:TypeId}{x:bY}{k:List AV→St→AT→Prop}(h:IY E st t x a k):∃ es st' r,consume E st t x=some (es,st')∧k es st' r:=by
 unfold IY at h
 split at h
 ·exact ⟨_,_,a,rfl,h⟩
 ·exact h.elim
 ·rename_i m
  split at h
  ·rename_i hx
   exact ⟨_,_,a,by simp only [consume,hx],h⟩
  ·rename_i t' es hx
   obtain ⟨h1,h2⟩:=dP h
   exact ⟨_,_,a,by simp only [consume,hx,af (eB.1 h1)],h2⟩
  ·rename_i pl hx
   obtain ⟨D,h⟩:=h
   obtain ⟨t',es,r,h1,h2⟩:=lD h
   obtain ⟨h3,h4⟩:=dP h2
   obtain ⟨st',r',h5,h6⟩:=Gj h4
   exact ⟨_,_,r',by simp only [consume,hx,R6 D,aH,h1,ab,af (eB.1 h3),h5],h6⟩
  ·rename_i pl lo len hx
   obtain ⟨D,h⟩:=h
   obtain ⟨h0,h⟩:=dP h
   obtain ⟨t',es,r,h1,h2⟩:=lD h
   obtain ⟨B,r2,h3,h4,rfl,h6⟩:=pg h2
   obtain ⟨st',r',h7,h8⟩:=Gj h6
   exact ⟨_,_,r',by simp only [consume,hx,R6 D,h0,kH,aH,h1,ab,af (And.intro h3 h4),h7],h8⟩
  ·exact h.elim
theorem agW{arr:Option Nat}{x i:bY}{k:KW}(hj:sV (st.ev i)=some j)(h:iaW E st sz arr (st.ev x) x j a k):Told (.ia sz arr x i) k G Ω E st d:=by
 unfold iaW at h
 split at h
 ·rename_i len
  obtain ⟨h1,h⟩:=h
  split at h
  ·rename_i kk o hx
   exact .mk (by simp only [execOp,hj,ab,af h1,hx]) h
  ·rename_i y o hx
   exact .mk (by simp only [execOp,hj,ab,af h1,hx]) h
  ·exact h.elim
 ·split at h
  ·rename_i t es hx
   obtain ⟨e,r,h1,h2,h3⟩:=AU h
   exact .mk (by simp only [execOp,hj,ab,hx];exact Ck h1 h2) h3
  ·rename_i t es hx
   split at h
   ·rename_i m
    obtain ⟨e,r,h1,h2,h3⟩:=AU h
    exact .mk (by simp only [execOp,hj,ab,hx];exact Ck h1 h2) h3
   ·exact h.elim
  ·rename_i pl hx
   obtain ⟨t,es,r0,h0,h⟩:=lD h
   obtain ⟨e,r,h1,h2,h3⟩:=AU h
   exact .mk (by simp only [execOp,hj,ab,hx,h0];exact Ck h1 h2) h3
  ·rename_i pl lo len hx
   obtain ⟨t,es,r0,h0,h4,h5,h⟩:=lD h
   obtain ⟨e,r,h1,h2,h3⟩:=AU h
   exact .mk (by simp only [execOp,hj,ab,hx,af h4,h0,af h5];exact Ck h1 h2) h3
  ·exact h.elim
theorem O2{m:Nat}{f:FuncId}{args:List AV}{k:KW}(h:Vk G Ω E st m f args a k):∃ x r,cK (call G Ω) Ω E st m f args=some (x,st)∧k x st r:=by
 unfold Vk at h
 split at h
 ·obtain ⟨ys,ts,r,h1,h2⟩:=vc h
  obtain ⟨x,r1,h3,h4⟩:=DB h2
  have h5:∃ b,(x.pure&&(ts.isEmpty||x.off ts))=true∧b=r1∧k x st b:=by
   split at h4
   ·obtain ⟨h5,h6⟩:=dP h4
    exact ⟨r1,by simp [h5],rfl,h6⟩
   ·exact ⟨r1,by simp [h4.1,h4.2.1],rfl,h4.2.2⟩
  obtain ⟨b,h6,rfl,h7⟩:=h5
  exact ⟨x,b,by simp only [cK,h1,ab,h3,h6,aH],h7⟩
 ·obtain ⟨ys,ts,r,h1,h2⟩:=vc h
  obtain ⟨x,r1,h3,h4⟩:=DB h2
  have h5:∃ b,(x.pure&&(ts.isEmpty||x.off ts))=true∧b=r1∧k x st b:=by
   split at h4
   ·obtain ⟨h5,h6⟩:=dP h4
    exact ⟨r1,by simp [h5],rfl,h6⟩
   ·exact ⟨r1,by simp [h4.1,h4.2.1],rfl,h4.2.2⟩
  obtain ⟨b,h6,rfl,h7⟩:=h5
  exact ⟨x,b,by simp only [cK,h1,ab,h3,h6,aH],h7⟩
 ·exact h.elim
theorem O3{f:FuncId}{args:List AV}{k:KW}(h:Vl G Ω E st f args a k):∃ x st' r,jo (call G Ω) Ω E st f args=some (x,st')∧k x st' r:=by
 unfold Vl at h
 split at h
 ·rename_i hc
  obtain ⟨x,r,h1,h2⟩:=O2 h
  exact ⟨x,st,r,by rw [jo,af hc];exact h1,h2⟩
 ·rename_i hc
  obtain ⟨h1,h2,h⟩:=h
  obtain ⟨h3,h⟩:=dP h
  obtain ⟨x,r1,h⟩:=DB h
  obtain ⟨I,r2,h⟩:=Gh h
  obtain ⟨bx,r3,h⟩:=ZG h
  obtain ⟨S,r4,h4,rfl,rfl,h5⟩:=Gh h
  refine ⟨x,st.back E.dp I,r4,?_,h5⟩
  rw [jo,ah (by rw [hc];simp)]
  simp only [h1,h2,h3,Bool.not_false,kH,aH,h4,ab]
theorem agX{f:FuncId}{args:List AV}{k:KW}(h:c3W G Ω E st f args a k):∃ x r,pb (call G Ω) E st f args=some (x,st)∧k x st r:=by
 obtain ⟨h1,h⟩:=h
 obtain ⟨h2,h⟩:=dP h
 obtain ⟨x,r1,h⟩:=DB h
 obtain ⟨I,r2,h3,h⟩:=Gh h
 obtain ⟨h4,h5⟩:=dP h
 exact ⟨x,r2,by simp only [pb,h1,h2,kH,aH,h3,ab,h4],h5⟩
theorem O4{o:qI}{k:KW}(h:rr G Ω E st d a o k):Told o k G Ω E st d:=by
 cases o with
 | mv x=>
  simp only [rr] at h
  split at h
  ·rename_i t es hx
   split at h
   ·exact .mk (by simp only [execOp,hx]) h
   ·exact h.elim
  ·rename_i hx
   refine .mk (x:=st.ev x) (st':=st) ?_ h
   simp only [execOp]
 | as x=>
  cases x with
  | c y=>
   obtain ⟨h1,h2⟩:=dP h
   exact .mk (by simp only [execOp,h1,aH]) h2
  | t n=>
   simp only [rr] at h
   split at h
   ·rename_i t es hx
    split at h
    ·exact .mk (by simp only [execOp,hx,ab]) h
    ·exact h.elim
   ·rename_i pl lo len hx
    split at h
    ·rename_i dd
     obtain ⟨own,r,h⟩:=ze h
     cases own with
     | true=>
      obtain ⟨rfl,h⟩:=h
      obtain ⟨h1,h⟩:=dP h
      obtain ⟨t,es,r1,h2,h⟩:=lD h
      obtain ⟨B,r2,h3,rfl,h5⟩:=pg h
      exact .mk (by simp only [execOp,hx,ab,h1,rV,kH,and_self,aH,h2,af h3]) h5
     | false=>
      obtain ⟨h1,h2⟩:=h
      refine .mk (x:=.v pl lo len) (st':=st) ?_ h2
      simp only [execOp,hx,ab]
      rw [ah]
      simp only [aY,eS]
      rintro ⟨h3,h4⟩
      rw [h1 h3] at h4
      cases h4
    ·exact h.elim
   ·rename_i O N
    obtain ⟨h1,h2⟩:=dP h
    refine .mk (x:=aQ st.fr n) (st':=st) ?_ h2
    simp only [execOp,af h1]
 | pk c x y=>
  simp only [rr] at h
  split at h
  ·rename_i z hc
   obtain ⟨w,r,rfl,h⟩:=ze h
   cases z with
   | true=>
    obtain ⟨h1,h2⟩:=dP h
    exact .mk (by simp only [execOp,hc,qH,ab,aH,h1]) h2
   | false=>
    obtain ⟨h1,h2⟩:=dP h
    exact .mk (by simp only [execOp,hc,qH,ab,dy,cH,h1,aH]) h2
  ·exact h.elim
 | bx x=>
  simp only [rr] at h
  split at h
  ·rename_i dd
   obtain ⟨h1,h⟩:=h
   obtain ⟨h2,h3⟩:=dP h
   simp only [aY] at h1 h2
   exact .mk (by simp only [execOp,ab,h1.1,h1.2.1,h1.2.2,h2.1.1,h2.1.2,h2.2,kH,aH]) h3
  ·exact h.elim
 | al zs=>
  simp only [rr] at h
  split at h
  ·rename_i dd
   obtain ⟨h1,h⟩:=h
   obtain ⟨h2,h3⟩:=dP h
   simp only [aY] at h1
   exact .mk (by simp only [execOp,ab,h1.1,h1.2,h2,kH,aH]) h3
  ·exact h.elim
 | ld n x=>exact agT h
 | st n x y=>exact agU h
 | fa off x=>
  simp only [rr] at h
  split at h
  ·rename_i hx;exact .mk (by simp only [execOp,hx]) h
  ·rename_i hx;exact .mk (by simp only [execOp,hx]) h
  ·rename_i hx
   obtain ⟨t,es,r,h1,h2,h3⟩:=lD h
   exact .mk (by simp only [execOp,hx,h1,ab,af h2]) h3
  ·exact h.elim
 | ia sz arr x i=>
  obtain ⟨j,r,h1,h2⟩:=L0 (x:=st.ev i) h
  exact agW h1 h2
 | bo op bl x y=>exact agS h
 | no x=>
  simp only [rr] at h
  split at h
  ·rename_i y hx
   exact .mk (by simp only [execOp,hx,qH,ab]) h
  ·exact h.elim
 | ae ks ng x y=>
  simp only [rr] at h
  split at h
  ·rename_i hx hy
   obtain ⟨r,a',h1,h2⟩:=ze h
   exact .mk (by simp only [execOp,hx,hy,h1,ab]) h2
  ·exact h.elim
 | cv ki x=>
  simp only [rr] at h
  split at h
  ·rename_i hx
   obtain ⟨r,a',h1,h2⟩:=vT h
   exact .mk (by simp only [execOp,hx,h1]) h2
  ·exact h.elim
 | bs t sz es=>
  simp only [rr] at h
  split at h
  ·obtain ⟨h1,h2⟩:=dP h
   obtain ⟨vs,r,rfl,h3⟩:=pg h2
   exact .mk (by simp only [execOp,ab,h1,aH]) h3
  ·exact h.elim
 | bd zs fs=>
  obtain ⟨h1,h2⟩:=dP h
  exact .mk (by simp only [execOp,h1,aH]) h2
 | ms t sz by_ x n=>
  simp only [rr] at h
  split at h
  ·obtain ⟨m,r,h1,h2⟩:=L0 h
   obtain ⟨es,r2,h3,h4,rfl,h6⟩:=pg h2
   exact .mk (by simp only [execOp,ab,h1,h3,h4,rV,kH,aH]) h6
  ·exact h.elim
 | sl t sz x lo hi=>exact agV h
 | ex x i=>
  simp only [rr] at h
  split at h
  ·rename_i vs hx
   split at h
   ·rename_i y hy
    exact .mk (by simp only [execOp,hx,hy,ab]) h
   ·exact h.elim
  ·exact h.elim
 | mf f C=>
  obtain ⟨h1,h2⟩:=dP h
  exact .mk (by simp only [execOp,h1,aH]) h2
 | ca m f args=>
  obtain ⟨x,r,h1,h2⟩:=O2 h
  exact .mk h1 h2
 | cf m x args=>
  simp only [rr] at h
  split at h
  ·rename_i f C hx
   obtain ⟨hg,h⟩:=dP h
   obtain ⟨x,r,h1,h2⟩:=O2 h
   exact .mk (by simp only [execOp,hx,af (uX hg)];exact h1) h2
  ·exact h.elim
 | c2 f args=>
  obtain ⟨x,st',r,h1,h2⟩:=O3 h
  exact .mk h1 h2
 | d2 x args=>
  simp only [rr] at h
  split at h
  ·rename_i f C hx
   split at h
   ·rename_i hg
    obtain ⟨x,st',r,h1,h2⟩:=O3 h
    exact .mk (by simp only [execOp,hx,af (uX hg)];exact h1) h2
   ·rename_i hg
    obtain ⟨x,st',r,h1,h2⟩:=O3 h
    exact .mk (by simp only [execOp,hx,ah (B0 hg)];exact h1) h2
  ·exact h.elim
 | c3 f args=>
  obtain ⟨x,r,h1,h2⟩:=agX h
  exact .mk h1 h2
 | ck f args=>
  simp only [rr] at h
  split at h
  ·rename_i dd
   obtain ⟨h1,h⟩:=dP h
   obtain ⟨cs,r1,h⟩:=pg h
   obtain ⟨I,r2,h4,h5,h6⟩:=Gh h
   exact .mk (by simp only [execOp,ab,Dx,h1,aH,h4,h5]) h6
  ·exact h.elim
 | cr t f args=>
  simp only [rr] at h
  split at h
  ·rename_i dd
   obtain ⟨h1,h2,h3⟩:=dP h
   exact .mk (by simp only [execOp,ab,LU,h1,aH,h2]) h3
  ·exact h.elim
 | ln str x=>
  simp only [rr] at h
  split at h
  ·rename_i l hx
   obtain ⟨h1,h2⟩:=dP h
   obtain ⟨n,r,h3,h4⟩:=vT h2
   exact .mk (by simp only [execOp,hx,h1,aH,h3]) h4
  ·rename_i hx
   obtain ⟨h1,h2⟩:=dP h
   obtain ⟨t,es,r,h3,h4⟩:=Nw h2
   obtain ⟨n,r,h5,h6⟩:=vT h4
   have hs:str=false:=by simpa using h1
   refine .mk (x:=.i .i64 n) (st':=st) ?_ h6
   have Q:∀ kk o m s,st.ev x≠.sp kk o m s:=fun kk o m s e=>by rw [e] at h3;cases h3
   simp only [execOp,hs,dy,cH]
   simp only [h3,ab,h5]
 | ap t sz by_ x y=>
  simp only [rr] at h
  split at h
  ·obtain ⟨t',ys,r,h1,h2⟩:=Nw h
   obtain ⟨es,st',r2,h3,h4⟩:=Re h2
   obtain ⟨z,r3,h5,h6,h7,rfl,h9⟩:=pg h4
   exact .mk (by simp only [execOp,ab,h1,h3,h5,h6,h7,rV,kH,aH]) h9
  ·exact h.elim
 | nc x=>
  simp only [rr] at h
  split at h
  ·rename_i hx;exact .mk (by simp only [execOp,hx]) h
  ·rename_i hx;exact .mk (by simp only [execOp,hx]) h
  ·rename_i hx;exact .mk (by simp only [execOp,hx]) h
  ·exact h.elim
 | bg zs fs=>
  obtain ⟨h1,h2⟩:=dP h
  exact .mk (by simp only [execOp,h1,aH]) h2
 | bxg x=>
  simp only [rr] at h
  split at h
  ·rename_i dd
   split at h
   ·rename_i cs rs hx
    obtain ⟨h1,h2⟩:=dP h
    split at h2
    ·rename_i st' ht
     exact .mk (by simp only [execOp,ab,hx,h1,aH,ht,kJ]) h2
    ·exact h2.elim
   ·exact h.elim
  ·exact h.elim
end
section
variable (G:sd)(Ω:ej)(E:Env)
abbrev KS:=St→AT→Prop
noncomputable def gW(st:St)(g:dE)(a:AT)(q:KS):Prop:=
 match g.g with
 | none=>rr G Ω E st g.d a g.o fun x st' a=>q (put st' g.d (fM g.fz x)) a
 | some (j,want)=>match aQ st.fr j with
  | .b x=>Kh a fun y a=>(x==want)=y∧(match y with
   | true=>rr G Ω E st g.d a g.o fun x st' a=>q (put st' g.d (fM g.fz x)) a
   | false=>q (put st g.d .sk) a)
  | .sk=>q (put st g.d .sk) a
  | _=>False
def Ja(dp:Nat)(p:cz)(v:St)(q:Prop):Prop:=
 match p.p.o with
 | .st _ x y=>(match Dy (v.ev y) with
  | false=>q
  | true=>match v.ev x with
   | .p k _=>k.dp=dp∧jM (p.vb==[k.d]&&(match y with
    | .t m=>p.cs==[m]
    | .c _=>false)) q
   | _=>False)
 | .ap _ _ _ x _=>jM (LV (v.ev x)==(p.cs.length==2)) q
 | _=>q
theorem Rr{dp:Nat}{p:cz}{v:St}{q:Prop}(h:Ja dp p v q):jq dp p v=true∧q:=by
 grind [Ja,jq,dP]
noncomputable def Tt(st:St)(p:cz)(a:AT)(q:KS):Prop:=
 jM (mY (view p st) p.p.o) (Ja E.dp p (view p st) (rr G Ω E (view p st) p.p.d a p.p.o fun x v' a=>(iY E.dp p.nk x&&okB E.dp p.nb x)=true∧q ((effect p (x,v')).app st) a))
noncomputable def dW(st:St)(p:cz)(a:AT)(q:KS):Prop:=
 match p.lt with
 | true=>match p.p.g with
  | none=>Tt G Ω E st p a q
  | some (j,want)=>match aQ st.fr j with
   | .b x=>Kh a fun y a=>(x==want)=y∧(match y with
    | true=>Tt G Ω E st p a q
    | false=>q ((⟨kM p.p.d .sk,[],[],none⟩:cR).app st) a)
   | .sk=>q ((⟨kM p.p.d .sk,[],[],none⟩:cR).app st) a
   | _=>False
 | false=>gW G Ω E st p.p a q
noncomputable def q9(kf kb:List Nat)(gs:List dE)(st:St):Option St:=(ib (call G Ω) Ω E st gs).map fun s=>s.cn kf kb
noncomputable def Ma(kf kb:List Nat)(gs:List cz)(st:St):Option St:=(lB (call G Ω) Ω E st gs).map fun s=>s.cn kf kb
def ahC(d:Option Nat)(m n:Nat)(d':Option Nat):Bool:=(match d,d' with
 | some x,some y=>x==y
 | none,none=>true
 | _,_=>false)&&m==n
noncomputable def GB(kf kb:List Nat):St→List dE→AT→KS→Prop
 | st,[],a,q=>q (st.cn kf kb) a
 | st,g::gs,a,q=>match a with
  | .jb d n b=>(match ahC g.d gs.length n d with
   | true=>kB b fun b=>match b with
    | .co (.jn X) r=>q9 G Ω E kf kb (g::gs) st=some X∧q X r
    | _=>False
   | false=>gW G Ω E st g (.jb d n b) fun st a=>GB kf kb st gs a q)
  | a=>gW G Ω E st g a fun st a=>GB kf kb st gs a q
noncomputable def GC(kf kb:List Nat):St→List cz→AT→KS→Prop
 | st,[],a,q=>q (st.cn kf kb) a
 | st,p::ps,a,q=>match a with
  | .jb d n b=>(match ahC p.p.d ps.length n d with
   | true=>kB b fun b=>match b with
    | .co (.jn X) r=>Ma G Ω E kf kb (p::ps) st=some X∧q X r
    | _=>False
   | false=>dW G Ω E st p (.jb d n b) fun st a=>GC kf kb st ps a q)
  | a=>dW G Ω E st p a fun st a=>GC kf kb st ps a q
def EM(st:St)(p:wS)(a:AT)(q:KS):Prop:=
 match p with
 | .own d t=>match aQ st.fr d with
  | .n=>q ((st.ct (.s d)).dA d (.o t [])) a
  | .o _ _=>q st a
  | _=>False
 | .fz d=>match aQ st.fr d with
  | .o t es=>q (st.dA d (.l t es)) a
  | _=>False
 | .ownC d off t=>match aQ st.fr d with
  | .p k o=>E.ro=false∧(IW E st k a fun cs a=>match cs[o+off]? with
   | some .n=>xL E (st.ct (.c k (o+off))) k (cs.set (o+off) (.o t [])) a q
   | some (.o _ _)=>q st a
   | _=>False)
  | _=>False
 | .fzC d off=>match aQ st.fr d with
  | .p k o=>E.ro=false∧(IW E st k a fun cs a=>match cs[o+off]? with
   | some (.o t es)=>xL E st k (cs.set (o+off) (.l t es)) a q
   | _=>False)
  | _=>False
 | .fzB d agg=>match aQ st.fr d with
  | .p k 0=>k.dp=E.dp∧(match bH st.bx k.d with
   | some cs=>jM (AV.cG cs) (match agg with
    | true=>q {(st.dA d (.e (.a cs) 0)) with bx:=st.bx.filter fun y=>y.1 !=k.d} a
    | false=>match cs with
     | [c]=>q {(st.dA d (.e c 0)) with bx:=st.bx.filter fun y=>y.1 !=k.d} a
     | _=>False)
   | none=>False)
  | _=>False
def Tu:St→List wS→AT→KS→Prop
 | st,[],a,q=>q st a
 | st,p::ps,a,q=>EM E st p a fun st a=>Tu st ps a q
abbrev KX:=bc→St→AT→Prop
noncomputable def cW:AC→St→AT→KX→Prop
 | .sk,st,a,q=>q .nrm st a
 | .rg pre ops kf kb,st,a,q=>Tu E st pre a fun st a=>GB G Ω E kf kb st ops a fun st a=>q .nrm st a
 | .dg pre mks ops kf kb,st,a,q=>Tu E st pre a fun st a=>(mks.all (ee E.dp st)&&ops.all (n9 E.dp st))=true∧(GC G Ω E kf kb st ops a fun st a=>q .nrm st a)
 | .sq x y,st,a,q=>cW x st a fun e st a=>match e with
  | .nrm=>cW y st a q
  | e=>q e st a
 | .ite c x y,st,a,q=>match st.ev c with
  | .b z=>Kh a fun w a=>z=w∧(match w with
   | true=>cW x st a q
   | false=>cW y st a q)
  | _=>False
 | .bl id x,st,a,q=>cW x st a fun e st a=>match e with
  | .ex id'=>if id'=id then q .nrm st a else q (.ex id') st a
  | e=>q e st a
 | .lp (.kp kf kb x),st,a,q=>Tf a fun e st' a=>run G Ω E (.lp (.kp kf kb x)) (st.cn kf kb)=some (e,st')∧q e st' a
 | .lp x,st,a,q=>Tf a fun e st' a=>run G Ω E (.lp x) st=some (e,st')∧q e st' a
 | .ex id,st,a,q=>q (.ex id) st a
 | .rt,st,a,q=>q .ret st a
 | .bad,_,_,_=>False
 | .ru g x y b,st,a,q=>Tf a fun e st' a=>run G Ω E (.ru g x y b) st=some (e,st')∧q e st' a
 | .kp kf kb x,st,a,q=>match a with
  | .fb b=>kB b fun b=>match b with
   | .co (.fr e st') r=>run G Ω E x (st.cn kf kb)=some (e,st')∧q e st' r
   | _=>False
  | _=>cW x (st.cn kf kb) a q
def Kt(st:St)(x:AV)(a:AT)(q:AV→AT→Prop):Prop:=
 match x with
 | .o t es=>q (.l t es) a
 | .r (.s d)=>qf E st (.s d) a fun t es a=>q (.l t es) a
 | .r (.c k off)=>k.dp=E.dp∧(qf E st (.c k off) a fun t es a=>q (.l t es) a)
 | .v (.s d) lo len=>qf E st (.s d) a fun t es a=>Cj a fun B a=>lo+len≤es.length∧(es.drop lo).take len=B∧q (.l t B) a
 | .v (.c _ _) _ _=>False
 | .q _ _ _ _=>False
 | .w _ _ _=>False
 | .ag _ _=>False
 | .bp _ _ _=>False
 | x=>q x a
def Tv(st:St):List AV→AT→(List AV→AT→Prop)→Prop
 | [],a,q=>q [] a
 | x::xs,a,q=>Kt E st x a fun y a=>Tv st xs a fun ys a=>q (y::ys) a
def Tw(st:St)(z:RV)(a:AT)(q:AV→AT→Prop):Prop:=
 match z with
 | .t n=>Kt E st (aQ st.fr n) a q
 | .r _=>False
 | .c n sz=>match aQ st.fr n with
  | .p k off=>k.dp=E.dp∧(match bH st.bx k.d with
   | some cs=>match pick sz off cs with
    | some (.a ds)=>Tv E st ds a fun ds a=>q (.a ds) a
    | some y=>Kt E st y a q
    | none=>False
   | none=>False)
  | _=>False
def Xd(st:St):List RV→AT→(List AV→Prop)→Prop
 | [],_,q=>q []
 | z::zs,a,q=>Tw E st z a fun y a=>Xd st zs a fun ys=>q (y::ys)
noncomputable def Pu(fn:bU)(ys:List AV)(hp:HP)(a:AT)(q:List AV→HP→Prop):Prop:=
 cW G Ω E fn.code ⟨lC 0 ys,[],hp⟩ a fun e st _=>match e with
  | .ex _=>False
  | _=>match fn.res with
   | [.t n]=>match aQ st.fr n with
    | .p k 0=>k.dp=E.dp∧(match bH st.bx k.d with
     | some cs=>(cs.all vu)=true∧q cs st.hp
     | none=>False)
    | _=>False
   | _=>False
noncomputable def Tx(fn:bU)(ys:List AV)(hp:HP)(a:AT)(q:AV→HP→Prop):Prop:=
 cW G Ω E fn.code ⟨lC 0 ys,[],hp⟩ a fun e st a=>match e with
  | .ex _=>False
  | _=>Xd E st fn.res a fun xs=>jM (AV.cG xs) (q (Fg xs) st.hp)
end
section
variable {G:sd}{Ω:ej}{E:Env}
theorem Zc{st:St}{g:dE}{q:KS}(h:gW G Ω E st g a q):∃ st' r,iX (call G Ω) Ω E st g=some st'∧q st' r:=by
 unfold gW at h
 split at h
 ·rename_i hg
  obtain ⟨x,st',r,h1,h2⟩:=O4 h
  grind [iX]
 ·rename_i j want hg
  split at h
  ·rename_i x hx
   obtain ⟨y,r,rfl,h⟩:=ze h
   split at h
   ·rename_i hy
    obtain ⟨x',st',r,h1,h2⟩:=O4 h
    grind [iX,zb]
   grind [iX,zb]
  ·grind [iX,zb]
  ·exact h.elim
theorem Pv{st:St}{p:cz}{q:KS}(h:Tt G Ω E st p a q):∃ P r,kr (call G Ω) Ω E p (view p st)=some P∧q (P.app st) r:=by
 obtain ⟨h0,h⟩:=dP h
 obtain ⟨h1,h⟩:=Rr h
 obtain ⟨x,st',r,h2,h3,h4⟩:=O4 h
 grind [kr]
theorem amj{st:St}{p:cz}{q:KS}(h:dW G Ω E st p a q):∃ st' r,e7 (call G Ω) Ω E st p=some st'∧q st' r:=by
 unfold dW at h
 split at h
 ·rename_i U
  split at h
  ·grind [Pv,e7,eZ]
  ·rename_i j want hg
   split at h
   ·rename_i x hx
    obtain ⟨y,r,rfl,h⟩:=ze h
    split at h
    ·grind [Pv,e7,eZ,zb]
    grind [e7,eZ,zb]
   ·grind [e7,eZ,zb]
   ·exact h.elim
 grind [Zc,e7]
theorem Mb{kf kb:List Nat} : ∀ {gs:List dE}{st:St}{a:AT}{q:KS},GB G Ω E kf kb st gs a q→∃ st' r,q9 G Ω E kf kb gs st=some st'∧q st' r
 | [],st,a,q,h=>⟨_,a,rfl,h⟩
 | g::gs,st,a,q,h=>by
  have key:∀ a',(gW G Ω E st g a' fun st a=>GB G Ω E kf kb st gs a q)→∃ st' r,q9 G Ω E kf kb (g::gs) st=some st'∧q st' r:=by
   intro a' h
   obtain ⟨st1,r1,h1,h2⟩:=Zc h
   obtain ⟨st2,r2,h3,h4⟩:=Mb h2
   grind [q9,ib]
  unfold GB at h
  split at h
  ·split at h
   ·obtain ⟨b,h⟩:=gx h
    grind
   ·exact key _ h
  ·exact key _ h
theorem Mc{kf kb:List Nat} : ∀ {gs:List cz}{st:St}{a:AT}{q:KS},GC G Ω E kf kb st gs a q→∃ st' r,Ma G Ω E kf kb gs st=some st'∧q st' r
 | [],st,a,q,h=>⟨_,a,rfl,h⟩
 | g::gs,st,a,q,h=>by
  have key:∀ a',(dW G Ω E st g a' fun st a=>GC G Ω E kf kb st gs a q)→∃ st' r,Ma G Ω E kf kb (g::gs) st=some st'∧q st' r:=by
   intro a' h
   obtain ⟨st1,r1,h1,h2⟩:=amj h
   obtain ⟨st2,r2,h3,h4⟩:=Mc h2
   grind [Ma,lB]
  unfold GC at h
  split at h
  ·split at h
   ·obtain ⟨b,h⟩:=gx h
    grind
   ·exact key _ h
  ·exact key _ h
theorem Xe{st:St}{p:wS}{q:KS}(h:EM E st p a q):∃ st' r,mb E st p=some st'∧q st' r:=by
 cases p with
 | own d t=>
  grind [EM,mb]
 | fz d=>
  grind [EM,mb]
 | ownC d off t=>
  simp only [EM] at h
  split at h
  ·rename_i k o hx
   obtain ⟨D,h⟩:=h
   obtain ⟨cs,r,h1,h2⟩:=AD h
   split at h2
   ·rename_i hc
    obtain ⟨r',h3⟩:=sY h2
    grind [mb,AE]
   ·grind [mb,AE]
   ·exact h2.elim
  ·exact h.elim
 | fzC d off=>
  simp only [EM] at h
  split at h
  ·rename_i k o hx
   obtain ⟨D,h⟩:=h
   obtain ⟨cs,r,h1,h2⟩:=AD h
   split at h2
   ·rename_i t es hc
    obtain ⟨r',h3⟩:=sY h2
    grind [mb,AE]
   ·exact h2.elim
  ·exact h.elim
 | fzB d agg=>
  simp only [EM] at h
  split at h
  ·rename_i k hx
   obtain ⟨h1,h⟩:=h
   split at h
   ·grind [dP,mb]
   ·exact h.elim
  ·exact h.elim
theorem Md:∀ {ps:List wS}{st:St}{a:AT}{q:KS},Tu E st ps a q→∃ st' r,sW E st ps=some st'∧q st' r
 | [],st,a,q,h=>⟨st,a,rfl,h⟩
 | p::ps,st,a,q,h=>by
  obtain ⟨st1,r1,h1,h2⟩:=Xe h
  obtain ⟨st2,r2,h3,h4⟩:=Md h2
  grind [sW]
theorem yH:∀ (c:AC){st:St}{a:AT}{q:KX},cW G Ω E c st a q→∃ e st' r,run G Ω E c st=some (e,st')∧q e st' r
 | .sk,st,a,q,h=>by grind [lf,cW]
 | .rg pre ops kf kb,st,a,q,h=>by
  simp only [cW] at h
  obtain ⟨st1,r1,h1,h2⟩:=Md h
  obtain ⟨st2,r2,h3,h4⟩:=Mb h2
  obtain ⟨st3,h5,rfl⟩:=fi.1 h3
  grind [zd]
 | .dg pre mks ops kf kb,st,a,q,h=>by
  simp only [cW] at h
  obtain ⟨st1,r1,h1,h0,h2⟩:=Md h
  obtain ⟨st2,r2,h3,h4⟩:=Mc h2
  obtain ⟨st3,h5,rfl⟩:=fi.1 h3
  grind [Kc]
 | .sq x y,st,a,q,h=>by
  simp only [cW] at h
  obtain ⟨e,st1,r1,h1,h2⟩:=yH x h
  cases e with
  | nrm=>
   obtain ⟨e,st2,r2,h3,h4⟩:=yH y h2
   exact ⟨e,st2,r2,by rw [ob,h1];exact h3,h4⟩
  | ex id=>exact ⟨_,_,r1,by rw [ob,h1];rfl,h2⟩
  | ret=>exact ⟨_,_,r1,by rw [ob,h1];rfl,h2⟩
 | .ite c x y,st,a,q,h=>by
  simp only [cW] at h
  split at h
  ·rename_i z hc
   obtain ⟨w,r,rfl,h⟩:=ze h
   cases z with
   | true=>
    obtain ⟨e,st1,r1,h1,h2⟩:=yH x h
    exact ⟨e,st1,r1,by rw [run_ite,hc];exact h1,h2⟩
   | false=>
    obtain ⟨e,st1,r1,h1,h2⟩:=yH y h
    exact ⟨e,st1,r1,by rw [run_ite,hc];exact h1,h2⟩
  ·exact h.elim
 | .bl id x,st,a,q,h=>by
  simp only [cW] at h
  obtain ⟨e,st1,r1,h1,h2⟩:=yH x h
  grind [sg,inBlock]
 | .lp x,st,a,q,h=>by
  cases x with
  | kp kf kb x=>
   simp only [cW] at h
   obtain ⟨e,st1,r1,h1,h2⟩:=LZ h
   refine ⟨e,st1,r1,?_,h2⟩
   exact (pf G Ω E ⟨kf,kb,x⟩ st).trans h1
  | _=>
   simp only [cW] at h
   obtain ⟨e,st1,r1,h1,h2⟩:=LZ h
   exact ⟨e,st1,r1,h1,h2⟩
 | .ex id,st,a,q,h=>by grind [sf,cW]
 | .ru g x y b,st,a,q,h=>by
  grind [cW,LZ]
 | .rt,st,a,q,h=>by grind [kA,cW]
 | .kp kf kb x,st,a,q,h=>by
  unfold cW at h
  split at h
  ·obtain ⟨b,h⟩:=gx h
   grind [sh]
  ·obtain ⟨e,st1,r1,h1,h2⟩:=yH x h
   grind [sh]
theorem Jb{st:St}{x:AV}{q:AV→AT→Prop}(h:Kt E st x a q):∃ y r,st.ua E.dp x=some y∧q y r:=by
 unfold Kt at h
 grind [lD,St.ua,pg]
theorem Pw{st:St} : ∀ {xs:List AV}{a:AT}{q:List AV→AT→Prop},Tv E st xs a q→∃ ys r,st.LX E.dp xs=some ys∧q ys r
 | [],a,q,h=>⟨[],a,rfl,h⟩
 | x::xs,a,q,h=>by
  obtain ⟨y,r,h1,h2⟩:=Jb h
  obtain ⟨ys,r2,h3,h4⟩:=Pw h2
  grind [St.LX]
theorem Xf{st:St}{z:RV}{q:AV→AT→Prop}(h:Tw E st z a q):∃ y r,st.CY E z=some y∧q y r:=by
 cases z with
 | t n=>exact Jb h
 | r n=>exact h.elim
 | c n sz=>
  simp only [Tw] at h
  split at h
  ·rename_i k off hx
   obtain ⟨h0,h⟩:=h
   split at h
   ·rename_i cs hb
    split at h
    ·grind [Pw,St.CY]
    ·grind [Jb,St.CY]
    ·exact h.elim
   ·exact h.elim
  ·exact h.elim
theorem Me{st:St} : ∀ {zs:List RV}{a:AT}{q:List AV→Prop},Xd E st zs a q→∃ xs,st.uo E zs=some xs∧q xs
 | [],a,q,h=>⟨[],rfl,h⟩
 | z::zs,a,q,h=>by
  obtain ⟨y,r,h1,h2⟩:=Xf h
  obtain ⟨ys,h3,h4⟩:=Me h2
  grind [St.uo]
theorem Xg{f:FuncId}{fn:bU}{ys:List AV}{hp:HP}{q:AV→HP→Prop}(hG:G f=some fn)(a:AT)(h:Tx G Ω E fn ys hp a q):∃ x F,call G Ω E f ys hp=some (.ret x,F)∧q x F:=by
 obtain ⟨e,st,r,h1,h2⟩:=yH fn.code h
 cases e with
 | ex id=>exact h2.elim
 | nrm=>
  obtain ⟨xs,h3,h4⟩:=Me h2
  grind [dP,vz,St.end_,St.result]
 | ret=>
  obtain ⟨xs,h3,h4⟩:=Me h2
  grind [dP,vz,St.end_,St.result]
theorem ahD{st:St}{rs:List RV}{n:Nat}{k:Key}(h1:rs=[.t n])(h2:aQ st.fr n= .p k 0)(h3:k.dp=E.dp)(h4:bH st.bx k.d=some cs)(h5:cs.all vu=true):st.end_ E rs=some (.new cs):=by
 simp_all [St.result,St.uo,St.CY,St.ua,AV.cG,AV.pure,St.end_,St.oa]
theorem VH{f:FuncId}{fn:bU}{ys:List AV}{hp:HP}{q:List AV→HP→Prop}(hG:G f=some fn)(a:AT)(h:Pu G Ω E fn ys hp a q):∃ cs F,call G Ω E f ys hp=some (.new cs,F)∧q cs F:=by
 obtain ⟨e,st,r,h1,h2⟩:=yH fn.code h
 have key:∀ {P:Prop},(match fn.res with
   | [.t n]=>match aQ st.fr n with
    | .p k 0=>k.dp=E.dp∧(match bH st.bx k.d with
     | some cs=>(cs.all vu)=true∧q cs st.hp
     | none=>False)
    | _=>False
   | _=>False)→(∀ cs,st.end_ E fn.res=some (.new cs)→q cs st.hp→P)→P:=by
  grind [ahD]
 cases e with
 | ex id=>exact h2.elim
 | nrm=>exact key h2 (by grind [vz])
 | ret=>exact key h2 (by grind [vz])
theorem ahE{R:Type}{f:FuncId}{fn:bU}{ys:List AV}{hp:HP}{Y:R→bC×HP}{r:R}{T:Prop}(hG:G f=some fn)(a:AT)(h:T)(he:T=Pu G Ω E fn ys hp a fun y h=>(bC.new y,h)=Y r):call G Ω E f ys hp=some (Y r):=by
 obtain ⟨y,h',h1,h2⟩:=VH hG a (he▸h)
 grind
theorem amk{R:Type}{f:FuncId}{fn:bU}{ys:List AV}{hp:HP}{Y:R→bC×HP}{r:R}{T:Prop}(hG:G f=some fn)(a:AT)(h:T)(he:T=Tx G Ω E fn ys hp a fun y h=>(bC.ret y,h)=Y r):call G Ω E f ys hp=some (Y r):=by
 obtain ⟨y,h',h1,h2⟩:=Xg hG a (he▸h)
 grind
theorem runT{R:Type}{c:AC}{st:St}{Y:R→bc×St}{r:R}{T:Prop}(a:AT)(h:T)(he:T=cW G Ω E c st a fun e s _=>(e,s)=Y r):run G Ω E c st=some (Y r):=by
 grind [yH]
theorem aml{R:Type}{kf kb:List Nat}{gs:List dE}{st:St}{Y:R→St}{r:R}{T:Prop}(a:AT)(h:T)(he:T=GB G Ω E kf kb st gs a fun s _=>s=Y r):q9 G Ω E kf kb gs st=some (Y r):=by
 grind [Mb]
theorem amm{R:Type}{kf kb:List Nat}{gs:List cz}{st:St}{Y:R→St}{r:R}{T:Prop}(a:AT)(h:T)(he:T=GC G Ω E kf kb st gs a fun s _=>s=Y r):Ma G Ω E kf kb gs st=some (Y r):=by
 grind [Mc]
def Zd(kf kb:List Nat):bc→St→St⊕(bc×St)
 | .nrm,s=>.inl (s.cn kf kb)
 | e,s=>.inr (e,s)
theorem ai{a b:Prop}(x:a)(y:b):a∧b:=⟨x,y⟩
theorem tt:true=true:=rfl
theorem gf:(false==true)=false:=rfl
theorem ht:(true==false)=false:=rfl
theorem hf:(false==false)=true:=rfl
abbrev W(w:List AV)(n:Nat):AV:=w.getD n .u
abbrev bt(r:AT):AT:=.co (.b true) r
abbrev bf(r:AT):AT:=.co (.b false) r
abbrev ao(x:R4)(r:AT):AT:=.co x r
theorem ff:false=false:=rfl
end
end Go.Proofs.YtlmphbbhaeampaaGreat.A
