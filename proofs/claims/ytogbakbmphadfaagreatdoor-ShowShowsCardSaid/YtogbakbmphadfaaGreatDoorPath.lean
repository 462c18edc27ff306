/- Paths: what is told of a run (which way it goes, what an element is, what a call answers) gives what must be shown, and nothing else; all else is reckoned. -/
import Derived.Test.YtogbakbmphadfaaGreatDoorAbs3
import Derived.KernelRfl
set_option linter.unusedSectionVars false
set_option linter.unusedVariables false
set_option linter.unusedSimpArgs false
set_option linter.constructorNameAsVariable false
namespace Go.Proofs.YtogbakbmphadfaaGreatDoor.A
open Go
inductive YS where
 | b (x:Bool)
 | n (x:Nat)
 | i (x:Int)
 | v (x:AV)
 | l (es:List AV)
 | s (x:List UInt8)
 | h (hp:HP)
 | bx (bs:List (Nat×List AV))
 | lp (e:aK) (st:St)
 | fr (e:aK) (st:St)
 | jn (st:St)
inductive AT:Type 1 where
 | nil
 | no
 | co (x:YS) (r:AT)
 | or (a b:AT)
 | ex {α:Type} (f:α→AT)
 | jb (d:Option Nat) (n:Nat) (b:AT)
 | fb (b:AT)
def fA:AT→(AT→Prop)→Prop
 | .or a b,k=>fA a k∨fA b k
 | .ex f,k=>∃ x,fA (f x) k
 | .no,_=>False
 | a,k=>k a
theorem dQ{k:AT→Prop} : ∀ {a:AT},fA a k→∃ b,k b
 | .or a b,h=>by
  rw [fA] at h
  rcases h with h | h
  ·exact dQ h
  ·exact dQ h
 | .ex f,h=>by
  rw [fA] at h
  obtain ⟨x,h⟩:=h
  exact dQ h
 | .no,h=>h.elim
 | .nil,h=>⟨_,h⟩
 | .co _ _,h=>⟨_,h⟩
 | .jb _ _ _,h=>⟨_,h⟩
 | .fb _,h=>⟨_,h⟩
def yP(a:AT)(k:Bool→AT→Prop):Prop:=fA a fun a=>match a with
 | .co (.b x) r=>k x r
 | _=>False
def PU(a:AT)(k:Nat→AT→Prop):Prop:=fA a fun a=>match a with
 | .co (.n x) r=>k x r
 | _=>False
def xc(a:AT)(k:Int→AT→Prop):Prop:=fA a fun a=>match a with
 | .co (.i x) r=>k x r
 | _=>False
def Dp(a:AT)(k:AV→AT→Prop):Prop:=fA a fun a=>match a with
 | .co (.v x) r=>k x r
 | _=>False
def rO(a:AT)(k:List AV→AT→Prop):Prop:=fA a fun a=>match a with
 | .co (.l x) r=>k x r
 | _=>False
def Hr(a:AT)(k:List UInt8→AT→Prop):Prop:=fA a fun a=>match a with
 | .co (.s x) r=>k x r
 | _=>False
def ER(a:AT)(k:HP→AT→Prop):Prop:=fA a fun a=>match a with
 | .co (.h x) r=>k x r
 | _=>False
def Kr(a:AT)(k:List (Nat×List AV)→AT→Prop):Prop:=fA a fun a=>match a with
 | .co (.bx x) r=>k x r
 | _=>False
def Ks(a:AT)(k:aK→St→AT→Prop):Prop:=fA a fun a=>match a with
 | .co (.lp e st) r=>k e st r
 | _=>False
def eA(b:Bool)(p:Prop):Prop:=match b with
 | true=>p
 | false=>False
theorem pG{a:AT}{k:Bool→AT→Prop}(h:yP a k):∃ x r,k x r:=by
 obtain ⟨b,h⟩:=dQ h
 split at h
 ·exact ⟨_,_,h⟩
 ·exact h.elim
theorem Jc{a:AT}{k:Nat→AT→Prop}(h:PU a k):∃ x r,k x r:=by
 obtain ⟨b,h⟩:=dQ h
 split at h
 ·exact ⟨_,_,h⟩
 ·exact h.elim
theorem oc{a:AT}{k:Int→AT→Prop}(h:xc a k):∃ x r,k x r:=by
 obtain ⟨b,h⟩:=dQ h
 split at h
 ·exact ⟨_,_,h⟩
 ·exact h.elim
theorem sK{a:AT}{k:AV→AT→Prop}(h:Dp a k):∃ x r,k x r:=by
 obtain ⟨b,h⟩:=dQ h
 split at h
 ·exact ⟨_,_,h⟩
 ·exact h.elim
theorem iT{a:AT}{k:List AV→AT→Prop}(h:rO a k):∃ x r,k x r:=by
 obtain ⟨b,h⟩:=dQ h
 split at h
 ·exact ⟨_,_,h⟩
 ·exact h.elim
theorem xd{a:AT}{k:List UInt8→AT→Prop}(h:Hr a k):∃ x r,k x r:=by
 obtain ⟨b,h⟩:=dQ h
 split at h
 ·exact ⟨_,_,h⟩
 ·exact h.elim
theorem u2{a:AT}{k:HP→AT→Prop}(h:ER a k):∃ x r,k x r:=by
 obtain ⟨b,h⟩:=dQ h
 split at h
 ·exact ⟨_,_,h⟩
 ·exact h.elim
theorem Hs{a:AT}{k:List (Nat×List AV)→AT→Prop}(h:Kr a k):∃ x r,k x r:=by
 obtain ⟨b,h⟩:=dQ h
 split at h
 ·exact ⟨_,_,h⟩
 ·exact h.elim
theorem Ht{a:AT}{k:aK→St→AT→Prop}(h:Ks a k):∃ e st r,k e st r:=by
 obtain ⟨b,h⟩:=dQ h
 split at h
 ·exact ⟨_,_,_,h⟩
 ·exact h.elim
theorem bO{b:Bool}{p:Prop}(h:eA b p):b=true∧p:=by
 cases b with
 | true=>exact ⟨rfl,h⟩
 | false=>exact h.elim
def BA(x:AV)(a:AT)(k:Nat→AT→Prop):Prop:=match x with
 | .i _ n=>PU a fun j r=>n=(j:Int)∧k j r
 | _=>False
theorem yj{x:AV}{a:AT}{k:Nat→AT→Prop}(h:BA x a k):∃ j r,lK x=some j∧k j r:=by
 unfold BA at h;split at h
 ·obtain ⟨j,r,h1,h2⟩:=Jc h
  subst h1
  exact ⟨j,r,by simp [lK],h2⟩
 ·exact h.elim
def rr(E:Env)(st:St)(k:Key)(a:AT)(q:List AV→AT→Prop):Prop:=
 yP a fun own r=>match own with
  | true=>k.dp=E.dp∧(match az st.bx k.d with
   | some cs=>q cs r
   | none=>False)
  | false=>rO r fun cs r=>k.dp≠E.dp∧st.hp k=some cs∧q cs r
theorem km{E:Env}{st:St}{k:Key}{a:AT}{q:List AV→AT→Prop}(h:rr E st k a q):∃ cs r,st.box E.dp k=some cs∧q cs r:=by
 obtain ⟨own,r,h⟩:=pG h
 cases own with
 | true=>
  obtain ⟨h1,h2⟩:=h
  split at h2
  ·rename_i cs hb
   exact ⟨cs,r,by simp only [St.box,if_pos h1,hb],h2⟩
  ·exact h2.elim
 | false=>
  obtain ⟨cs,r,h1,h2,h3⟩:=iT h
  exact ⟨cs,r,by simp only [St.box,if_neg h1,h2],h3⟩
def mx(E:Env)(st:St)(k:Key)(cs:List AV)(a:AT)(q:St→AT→Prop):Prop:=
 yP a fun own r=>match own with
  | true=>k.dp=E.dp∧q {st with bx:=hY st.bx k.d cs} r
  | false=>ER r fun hp r=>k.dp≠E.dp∧aB st.hp k cs=hp∧q {st with hp:=hp} r
theorem jF{E:Env}{st:St}{k:Key}{cs:List AV}{a:AT}{q:St→AT→Prop}(h:mx E st k cs a q):∃ r,q (st.aL E.dp k cs) r:=by
 obtain ⟨own,r,h⟩:=pG h
 cases own with
 | true=>
  obtain ⟨h1,h2⟩:=h
  exact ⟨r,by simp only [St.aL,if_pos h1];exact h2⟩
 | false=>
  obtain ⟨hp,r,h1,h2,h3⟩:=u2 h
  subst h2
  exact ⟨r,by simp only [St.aL,if_neg h1];exact h3⟩
def kO(E:Env)(st:St)(pl:Pl)(a:AT)(q:TypeId→List AV→AT→Prop):Prop:=
 match pl with
 | .s d=>match an st.fr d with
  | .o t es=>q t es a
  | _=>False
 | .c k off=>rr E st k a fun cs r=>match cs[off]? with
  | some (.o t es)=>q t es r
  | _=>False
theorem eK{E:Env}{st:St}{pl:Pl}{a:AT}{q:TypeId→List AV→AT→Prop}(h:kO E st pl a q):∃ t es r,st.rowAt E.dp pl=some (t,es)∧q t es r:=by
 unfold kO at h
 split at h
 ·split at h
  ·rename_i t es hx
   exact ⟨t,es,a,by simp only [St.rowAt,hx],h⟩
  ·exact h.elim
 ·obtain ⟨cs,r,h1,h2⟩:=km h
  split at h2
  ·rename_i t es hx
   exact ⟨t,es,r,by simp only [St.rowAt,h1,hx],h2⟩
  ·exact h2.elim
def xe(E:Env)(st:St)(x:AV)(pl:Pl)(a:AT)(q:St→AT→Prop):Prop:=
 match pl with
 | .s d=>q (st.b5 d x) a
 | .c k off=>rr E st k a fun cs r=>mx E st k (cs.set off x) r q
theorem xf{E:Env}{st:St}{x:AV}{pl:Pl}{a:AT}{q:St→AT→Prop}(h:xe E st x pl a q):∃ st' r,st.putAt E.dp x pl=some st'∧q st' r:=by
 unfold xe at h
 split at h
 ·exact ⟨_,a,rfl,h⟩
 ·obtain ⟨cs,r,h1,h2⟩:=km h
  obtain ⟨r',h3⟩:=jF h2
  exact ⟨_,r',by simp only [St.putAt,h1],h3⟩
def yk(sz:Nat)(es:List AV)(j:Nat)(a:AT)(q:AV→AT→Prop):Prop:=Dp a fun e r=>es[j]? =some e∧eA (e.nc==sz) (q e r)
theorem sL{sz:Nat}{es:List AV}{j:Nat}{a:AT}{q:AV→AT→Prop}(h:yk sz es j a q):∃ e r,es[j]? =some e∧e.nc=sz∧q e r:=by
 obtain ⟨e,r,h1,h2⟩:=sK h
 obtain ⟨h3,h4⟩:=bO h2
 exact ⟨e,r,h1,by simpa using h3,h4⟩
theorem kn{E:Env}(h:E.ro=false)(pl:Pl):pl.fq E=true:=by cases pl<;>simp [Pl.fq,h]
def xg(E:Env)(st:St)(x:AV)(a:AT)(q:TypeId→List AV→AT→Prop):Prop:=
 match x with
 | .l t es=>q t es a
 | .n=>q 0 [] a
 | .o t es=>q t es a
 | .r pl=>kO E st pl a q
 | .v pl lo len=>kO E st pl a fun t es r=>rO r fun es' r=>lo+len≤es.length∧(es.drop lo).take len=es'∧q t es' r
 | _=>False
theorem xh{E:Env}{st:St}{x:AV}{a:AT}{q:TypeId→List AV→AT→Prop}(h:xg E st x a q):∃ t es r,st.elems E.dp x=some (t,es)∧q t es r:=by
 unfold xg at h
 split at h
 ·exact ⟨_,_,a,rfl,h⟩
 ·exact ⟨_,_,a,rfl,h⟩
 ·exact ⟨_,_,a,rfl,h⟩
 ·obtain ⟨t,es,r,h1,h2⟩:=eK h
  exact ⟨t,es,r,h1,h2⟩
 ·obtain ⟨t,es,r,h1,h2⟩:=eK h
  obtain ⟨es',r',h3,h4,h5⟩:=iT h2
  subst h4
  exact ⟨t,_,r',by simp only [St.elems,h1,if_pos h3],h5⟩
 ·exact h.elim
def sa(E:Env)(st:St):List AV→AT→(List AV→List TypeId→AT→Prop)→Prop
 | [],a,q=>q [] [] a
 | x::xs,a,q=>(match x with
  | .o t es=>sa E st xs a fun ys ts r=>q (.l t es::ys) ([t]++ts) r
  | .r pl=>kO E st pl a fun t es r=>sa E st xs r fun ys ts r=>q (.l t es::ys) ([t]++ts) r
  | .v pl lo len=>kO E st pl a fun t es r=>rO r fun es' r=>lo+len≤es.length∧(es.drop lo).take len=es'∧sa E st xs r fun ys ts r=>q (.l t es'::ys) ([t]++ts) r
  | .w _ t x=>sa E st xs a fun ys ts r=>q (x::ys) ([t]++ts) r
  | x=>eA x.pure (sa E st xs a fun ys ts r=>q (x::ys) ([]++ts) r))
theorem oL{E:Env}{st:St} : ∀ {xs:List AV}{a:AT}{q:List AV→List TypeId→AT→Prop},sa E st xs a q→∃ ys ts r,st.dY E.dp xs=some (ys,ts)∧q ys ts r
 | [],a,q,h=>⟨[],[],a,rfl,h⟩
 | x::xs,a,q,h=>by
  unfold sa at h
  split at h
  ·obtain ⟨ys,ts,r,h1,h2⟩:=oL h
   exact ⟨_,_,r,by simp [St.dY,St.lA,h1],h2⟩
  ·obtain ⟨t,es,r,h1,h2⟩:=eK h
   obtain ⟨ys,ts,r,h3,h4⟩:=oL h2
   exact ⟨_,_,r,by simp [St.dY,St.lA,h1,h3],h4⟩
  ·obtain ⟨t,es,r,h1,h2⟩:=eK h
   obtain ⟨es',r,h3,h4,h5⟩:=iT h2
   obtain ⟨ys,ts,r,h6,h7⟩:=oL h5
   subst h4
   exact ⟨_,_,r,by simp [St.dY,St.lA,h1,h3,h6],h7⟩
  ·obtain ⟨ys,ts,r,h1,h2⟩:=oL h
   exact ⟨_,_,r,by simp [St.dY,St.lA,h1],h2⟩
  ·rename_i h1 h2 h3 hw
   obtain ⟨h4,h5⟩:=bO h
   obtain ⟨ys,ts,r,h6,h7⟩:=oL h5
   refine ⟨_,_,r,?_,h7⟩
   have:st.lA E.dp x=some (x,[]):=by
    unfold St.lA
    split
    ·exact (h1 _ _ rfl).elim
    ·exact (h2 _ rfl).elim
    ·exact (h3 _ _ _ rfl).elim
    ·exact (hw _ _ _ rfl).elim
    ·rw [if_pos h4]
   simp [St.dY,this,h6]
abbrev KW:=AV→St→AT→Prop
section
variable (G:qn)(Ω:cI)(E:Env)(st:St)(d:Option Nat)
def PV(sz:Nat)(arr:Option Nat)(x:AV)(xo:aP)(j:Nat)(a:AT)(k:KW):Prop:=
 match arr with
 | some len=>j<len∧(match x with
  | .p kk o=>k (.p kk (o+j*sz)) st a
  | .e y o=>k (.e y (o+j*sz)) st a
  | _=>False)
 | none=>match x with
  | .l _ es=>yk sz es j a fun e r=>k (.e e 0) st r
  | .o _ es=>match xo with
   | .t m=>yk sz es j a fun _ r=>k (.q (.s m) j sz 0) st r
   | .c _=>False
  | .r pl=>kO E st pl a fun _ es r=>yk sz es j r fun _ r=>k (.q pl j sz 0) st r
  | .v pl lo len=>kO E st pl a fun _ es r=>j<len∧lo+len≤es.length∧(yk sz es (lo+j) r fun _ r=>k (.q pl (lo+j) sz 0) st r)
  | _=>False
def PW(op:BinOp)(bl:Bool)(x y:AV)(a:AT)(k:KW):Prop:=
 match x,y with
 | .i ki m,.i ki' n=>if ki=ki' then
   match op with
   | .add=>xc a fun r a=>ki.wrap (m+n)=r∧k (.i ki r) st a
   | .sub=>xc a fun r a=>ki.wrap (m - n)=r∧k (.i ki r) st a
   | .mul=>xc a fun r a=>ki.wrap (m*n)=r∧k (.i ki r) st a
   | .quo=>xc a fun r a=>n≠0∧ki.wrap (m.tdiv n)=r∧k (.i ki r) st a
   | .rem=>xc a fun r a=>n≠0∧m.tmod n=r∧k (.i ki r) st a
   | .eql=>k (.b (m==n)) st a
   | .neq=>k (.b (m !=n)) st a
   | .lss=>k (.b (decide (m<n))) st a
   | .leq=>k (.b (decide (m≤n))) st a
   | .gtr=>k (.b (decide (n<m))) st a
   | .geq=>k (.b (decide (n≤m))) st a
   | _=>False
  else False
 | .b m,.b n=>match bl,op with
  | true,.eql=>k (.b (m==n)) st a
  | true,.neq=>k (.b (!(m==n))) st a
  | _,_=>False
 | .s m,.s n=>match op with
  | .add=>Hr a fun r a=>m.length+n.length≤4611686018427387904∧m++n=r∧k (.s r) st a
  | .eql=>k (.b (m==n)) st a
  | .neq=>k (.b (!(m==n))) st a
  | _=>False
 | _,_=>False
def PX(n:Option Nat)(x:AV)(a:AT)(k:KW):Prop:=
 match x with
 | .p kk off=>rr E st kk a fun cs a=>match pick n off cs with
  | some (.o _ _)=>k (.r (.c kk off)) st a
  | some y=>eA y.copy (k y st a)
  | none=>False
 | .e x off=>match pick n off x.cl with
  | some y=>k y st a
  | none=>False
 | .q pl i sz off=>kO E st pl a fun _ es a=>yk sz es i a fun e a=>match pick n off e.cl with
  | some y=>k y st a
  | none=>False
 | _=>False
def PY(n:Nat)(x y:AV)(yo:aP)(a:AT)(k:KW):Prop:=
 match x with
 | .p kk off=>E.ro=false∧(rr E st kk a fun cs a=>match y with
  | .o t es=>match yo with
   | .t m=>eA (n==1&&decide (off<cs.length)) (mx E ((st.b5 m .u).aT (.c kk off)) kk (cs.set off (.o t es)) a fun st' a=>k .u st' a)
   | .c _=>False
  | .v pl lo len=>pl= .c kk off∧eA (lo==0&&n==1) (kO E st pl a fun t es a=>rO a fun es' a=>len≤es.length∧es.take len=es'∧(mx E (st.aT (.c kk off)) kk (cs.set off (.o t es')) a fun st' a=>k .u st' a))
  | y=>y.deep kk.dp=true∧eA (y.copy&&y.nc==n&&y.cl.all AV.one&&decide (off+n≤cs.length)) (mx E st kk (putCells cs off y.cl) a fun st' a=>k .u st' a))
 | .q pl i sz off=>E.ro=false∧(kO E st pl a fun t es a=>Dp a fun e a=>es[i]? =some e∧eA (e.nc==sz&&y.pure&&y.nc==n&&y.cl.all AV.one&&decide (off+n≤sz)) (rO a fun es' a=>es.set i (vD e off y.cl)=es'∧(xe E st (.o t es') pl a fun st' a=>k .u st' a)))
 | _=>False
def zg(x:Option AV)(dflt:Nat)(a:AT)(k:Nat→AT→Prop):Prop:=
 match x with
 | none=>k dflt a
 | some y=>BA y a k
def PZ(t sz:Nat)(x:AV)(lo hi:Option AV)(a:AT)(k:KW):Prop:=
 match x with
 | .s l=>zg lo 0 a fun i a=>zg hi l.length a fun j a=>Hr a fun r a=>t=0∧i≤j∧j≤l.length∧(l.take j).drop i=r∧k (.s r) st a
 | .l t' es=>zg lo 0 a fun i a=>zg hi es.length a fun j a=>rO a fun r a=>t≠0∧es.all (fun e=>e.nc==sz)=true∧i≤j∧j≤es.length∧(es.take j).drop i=r∧k (.l t' r) st a
 | .r pl=>kO E st pl a fun t' es a=>zg lo 0 a fun i a=>zg hi es.length a fun j a=>PU a fun m a=>eA (t !=0&&t'==t) (i≤j∧j≤es.length∧j - i=m∧k (.v pl i m) st a)
 | _=>False
def vI(t:TypeId)(x:aP)(a:AT)(k:List AV→St→AT→Prop):Prop:=
 match x with
 | .c .n=>k [] st a
 | .c _=>False
 | .t m=>match an st.fr m with
  | .n=>k [] st a
  | .o t' es=>eA (t'==t) (k es (st.b5 m .u) a)
  | .r pl=>E.ro=false∧(kO E st pl a fun t' es a=>eA (t'==t) (xe E st .u pl a fun st' a=>k es st' a))
  | .v pl lo len=>E.ro=false∧eA (lo==0) (kO E st pl a fun t' es a=>rO a fun es' a=>len≤es.length∧t'=t∧es.take len=es'∧(xe E st .u pl a fun st' a=>k es' st' a))
  | _=>False
noncomputable def Jd(m:Nat)(f:FuncId)(args:List AV)(a:AT)(k:KW):Prop:=
 match m with
 | 0=>sa E st args a fun ys ts a=>Dp a fun x a=>call G Ω ⟨0,false⟩ f ys (fun _=>none)=some (.ret x,fun _=>none)∧(match ts with
  | []=>eA x.pure (k x st a)
  | ts=>x.pure=true∧x.off ts=true∧k x st a)
 | 1=>sa E st args a fun ys ts a=>Dp a fun x a=>Ω f ys=some x∧(match ts with
  | []=>eA x.pure (k x st a)
  | ts=>x.pure=true∧x.off ts=true∧k x st a)
 | _=>False
noncomputable def Mm(f:FuncId)(args:List AV)(a:AT)(k:KW):Prop:=
 match args.all AV.LA with
 | true=>Jd G Ω E st 0 f args a k
 | false=>E.ro=false∧(st.bx.all fun y=>AV.dB E.dp y.2)=true∧eA (args.all AV.copy) (Dp a fun x a=>ER a fun h2 a=>Kr a fun bx a=>ER a fun h3 a=>
  call G Ω ⟨E.dp+1,false⟩ f args (fun kk=>st.box E.dp kk)=some (.ret x,h2)∧kJ E.dp h2 st.bx=bx∧(fun kk:Key=>if kk.dp<E.dp then h2 kk else none)=h3∧
  k x ⟨st.fr.map fun y=>(y.1,if sF y.2=true then .u else y.2),bx,h3⟩ a)
noncomputable def P0(f:FuncId)(args:List AV)(a:AT)(k:KW):Prop:=
 (st.bx.all fun y=>AV.dB E.dp y.2)=true∧eA (args.all AV.copy) (Dp a fun x a=>ER a fun h2 a=>call G Ω ⟨E.dp+1,true⟩ f args (fun kk=>st.box E.dp kk)=some (.ret x,h2)∧eA x.pure (k x st a))
noncomputable def cnW(dd:Nat)(f:FuncId)(args:List AV)(a:AT)(k:KW):Prop:=
 E.ro=false∧(st.bx.all fun y=>AV.dB E.dp y.2)=true∧eA (args.all AV.copy) (rO a fun cs a=>ER a fun h2 a=>Kr a fun bx a=>ER a fun h3 a=>
  call G Ω ⟨E.dp+1,false⟩ f args (fun kk=>st.box E.dp kk)=some (.new cs,h2)∧kJ E.dp h2 st.bx=bx∧(fun kk:Key=>if kk.dp<E.dp then h2 kk else none)=h3∧
  z8 E.dp ⟨st.fr.map fun y=>(y.1,if sF y.2=true then .u else y.2),bx,h3⟩ dd=true∧
  k (.p ⟨E.dp,dd⟩ 0) ⟨st.fr.map fun y=>(y.1,if sF y.2=true then .u else y.2),(dd,cs)::bx,h3⟩ a)
noncomputable def eL(a:AT)(o:lJ)(k:KW):Prop:=
 match o with
 | .mv x=>match st.ev x with
  | .o _ _=>match x with
   | .t n=>k (.r (.s n)) st a
   | .c _=>False
  | y=>k y st a
 | .as x=>match x with
  | .c y=>eA y.pure (k y st a)
  | .t n=>match an st.fr n with
   | .o t es=>match d with
    | some d=>k (.o t es) ((st.b5 n .u).aT (.s d)) a
    | none=>False
   | .v pl lo len=>match d with
    | some d=>yP a fun own a=>match own with
     | true=>pl= .s d∧eA (lo==0) (kO E st pl a fun t es a=>rO a fun es' a=>len≤es.length∧es.take len=es'∧k (.o t es') (st.aT (.s d)) a)
     | false=>(pl= .s d→(lo==0)=false)∧k (.v pl lo len) st a
    | none=>False
   | y=>eA (y.copy||ye y) (k y st a)
 | .pk c x y=>match st.ev c with
  | .b z=>yP a fun w a=>z=w∧(match w with
   | true=>eA (st.ev x).copy (k (st.ev x) st a)
   | false=>eA (st.ev y).copy (k (st.ev y) st a))
  | _=>False
 | .bx x=>match d with
  | some d=>((st.ev x).deep E.dp&&(st.fr.all (fun y=>y.2.bn ⟨E.dp,d⟩)&&st.bx.all (fun y=>AV.bY ⟨E.dp,d⟩ y.2)))=true∧
   eA ((st.ev x).copy&&(st.ev x).cl.all AV.one&&(az st.bx d).isNone) (k (.p ⟨E.dp,d⟩ 0) {st with bx:=(d,(st.ev x).cl)::st.bx} a)
  | none=>False
 | .al zs=>match d with
  | some d=>(st.fr.all (fun y=>y.2.bn ⟨E.dp,d⟩)&&st.bx.all (fun y=>AV.bY ⟨E.dp,d⟩ y.2))=true∧eA (az st.bx d).isNone (k (.p ⟨E.dp,d⟩ 0) {st with bx:=(d,zs)::st.bx} a)
  | none=>False
 | .ld n x=>PX E st n (st.ev x) a k
 | .st n x y=>PY E st n (st.ev x) (st.ev y) y a k
 | .fa off x=>match st.ev x with
  | .p kk o=>k (.p kk (o+off)) st a
  | .e y o=>k (.e y (o+off)) st a
  | .q pl i sz o=>kO E st pl a fun _ es a=>i<es.length∧k (.q pl i sz (o+off)) st a
  | _=>False
 | .fd n off x=>match st.ev x with
  | .a cs=>match pick n off cs with
   | some y=>k y st a
   | none=>False
  | _=>False
 | .ia sz arr x i=>BA (st.ev i) a fun j a=>PV E st sz arr (st.ev x) x j a k
 | .ix x i=>match st.ev x with
  | .s l=>BA (st.ev i) a fun j a=>xc a fun c a=>(l[j]?).map (fun z:UInt8=>(z.toNat:Int))=some c∧k (.i .u8 c) st a
  | _=>False
 | .bo op bl x y=>PW st op bl (st.ev x) (st.ev y) a k
 | .no x=>match st.ev x with
  | .b y=>k (.b (!y)) st a
  | _=>False
 | .ng x=>match st.ev x with
  | .i ki n=>xc a fun r a=>ki.wrap (0 - n)=r∧k (.i ki r) st a
  | _=>False
 | .ae ks ng x y=>match st.ev x,st.ev y with
  | .a xs,.a ys=>yP a fun r a=>fY ks xs ys=some r∧k (.b (if ng then !r else r)) st a
  | _,_=>False
 | .cs x=>match st.ev x with
  | .i _ n=>Hr a fun r a=>(0≤n∧n<128)∧[UInt8.ofNat n.toNat]=r∧k (.s r) st a
  | _=>False
 | .cv ki x=>match st.ev x with
  | .i _ n=>xc a fun r a=>ki.wrap n=r∧k (.i ki r) st a
  | _=>False
 | .bs t sz es=>match d with
  | some d=>eA ((es.map st.ev).all fun y=>y.pure&&y.cl.all AV.one&&y.nc==sz) (rO a fun vs a=>es.map st.ev=vs∧k (.o t vs) (st.aT (.s d)) a)
  | none=>False
 | .bd zs fs=>eA (fs.all fun f=>(st.ev f.2.2).copy&&(st.ev f.2.2).nc==f.2.1&&(st.ev f.2.2).cl.all AV.one&&decide (f.1+f.2.1≤zs.length))
   (k (.a (fs.foldl (fun cs f=>putCells cs f.1 (st.ev f.2.2).cl) zs)) st a)
 | .ms t _ by_ x n=>match d with
  | some d=>BA (st.ev n) a fun n a=>rO a fun es a=>n*by_≤140737488355328∧n≤maxLen∧List.replicate n x=es∧k (.o t es) (st.aT (.s d)) a
  | none=>False
 | .sl t sz x lo hi=>PZ E st t sz (st.ev x) (lo.map st.ev) (hi.map st.ev) a k
 | .ex x i=>match st.ev x with
  | .tp vs=>match vs[i]? with
   | some y=>k y st a
   | none=>False
  | _=>False
 | .mf f caps=>eA (AV.lI (caps.map st.ev)) (k (.f f (caps.map st.ev)) st a)
 | .ca m f args=>Jd G Ω E st m f (args.map st.ev) a k
 | .cf m x args=>match st.ev x with
  | .f f caps=>Jd G Ω E st m f (args.map st.ev++caps) a k
  | _=>False
 | .c2 f args=>Mm G Ω E st f (args.map st.ev) a k
 | .d2 x args=>match st.ev x with
  | .f f caps=>Mm G Ω E st f (args.map st.ev++caps) a k
  | _=>False
 | .c3 f args=>P0 G Ω E st f (args.map st.ev) a k
 | .d3 x args=>match st.ev x with
  | .f f caps=>P0 G Ω E st f (args.map st.ev++caps) a k
  | _=>False
 | .cn f args=>match d with
  | some dd=>cnW G Ω E st dd f (args.map st.ev) a k
  | none=>False
 | .cr t f args=>match d with
  | some dd=>eA (AV.b7 (args.map st.ev)) (Ω f (args.map st.ev)=some (.o t [])∧k (.o t []) (st.aT (.s dd)) a)
  | none=>False
 | .ln str x=>match st.ev x with
  | .s l=>eA str (xc a fun n a=>(l.length:Int)=n∧k (.i .i64 n) st a)
  | y=>eA (!str) (xg E st y a fun _ es a=>xc a fun n a=>(es.length:Int)=n∧k (.i .i64 n) st a)
 | .ap t sz by_ x y=>match d with
  | some d=>xg E st (st.ev y) a fun _ ys a=>vI E st t x a fun es st' a=>rO a fun r a=>
    ys.all (fun e=>e.nc==sz)=true∧(es.length+ys.length)*by_≤140737488355328∧es.length+ys.length≤maxLen∧es++ys=r∧k (.o t r) (st'.aT (.s d)) a
  | none=>False
 | .nc x=>match st.ev x with
  | .p kk o=>k (.p kk o) st a
  | .e y o=>k (.e y o) st a
  | .f g caps=>k (.f g caps) st a
  | _=>False
 | .cw t f args=>match d with
  | some d=>eA (t !=0&&AV.b7 (args.map st.ev)) (rO a fun ys a=>Dp a fun x a=>AV.HU t (args.map st.ev)=some ys∧call G Ω ⟨0,false⟩ f ys (fun _=>none)=some (.ret x,fun _=>none)∧(x.pure&&AV.kK t x)=true∧k (.w d t x) st a)
  | none=>False
 | .vi _ _ _=>False
 | .ch _ _ _ _ _=>False
 | .bz t off x=>match d with
  | some d=>((st.ev x).deep E.dp&&(st.fr.all (fun y=>y.2.bn ⟨E.dp,d⟩)&&st.bx.all (fun y=>AV.bY ⟨E.dp,d⟩ y.2)))=true∧
   eA ((st.ev x).copy&&(st.ev x).cl.all AV.one&&(az st.bx d).isNone) (match (st.ev x).cl[off]? with
    | some .z=>k (.p ⟨E.dp,d⟩ 0) {st with bx:=(d,(st.ev x).cl.set off (.bp t ⟨E.dp,d⟩ false))::st.bx} a
    | _=>False)
  | none=>False
 | .lz x=>match st.ev x with
  | .p kk off=>rr E st kk a fun cs a=>match cs[off]? with
   | some (.bp _ k' u)=>yP a fun v a=>u=v∧(match v with
    | true=>k (.p k' off) st a
    | false=>k .z st a)
   | _=>False
  | _=>False
 | .pe ng x y=>match st.ev x,st.ev y with
  | .z,.z=>k (.b (!ng)) st a
  | .p _ _,.z=>k (.b ng) st a
  | .p kk o,.p k' o'=>(kk=k'∧o=o')∧k (.b (!ng)) st a
  | _,_=>False
 | .cp t n off x=>match st.ev x with
  | .p kk o=>rr E st kk a fun cs a=>eA (o==off&&cs.length==n) (match cs[off]? with
   | some (.bp t' _ _)=>eA (t'==t) (k (.p kk o) st a)
   | _=>False)
  | _=>False
 | .aq t x y=>match d with
  | some d=>match st.ev y with
   | .s l=>vI E st t x a fun es st' a=>rO a fun r a=>(es.length+l.length≤140737488355328∧es.length+l.length≤maxLen)∧es++l.map af=r∧k (.o t r) (st'.aT (.s d)) a
   | _=>False
  | none=>False
 | .sz x y=>match st.ev x,st.ev y with
  | .p kk off,.p k2 o2=>E.ro=false∧(rr E st kk a fun cs a=>match cs[off]? with
   | some (.bp t k' _)=>(k2=kk∧o2=off∧k'=kk)∧(mx E st kk (cs.set off (.bp t kk true)) a fun st' a=>k .u st' a)
   | _=>False)
  | _,_=>False
 | .tx x=>xg E st (st.ev x) a fun _ es a=>Hr a fun l a=>bytesOf es=some l∧l≠[]∧k (.s l) st a
 | .sb f x=>match st.ev x with
  | .p kk off=>E.ro=false∧(rr E st kk a fun cs a=>match cs[off+1]? with
   | some (.o t es)=>Hr a fun l a=>Ω f [.u,.u,.i .i64 t]=some (.s [])∧bytesOf es=some l∧l≠[]∧(mx E (st.aT (.c kk (off+1))) kk (cs.set (off+1) .u) a fun st' a=>k (.s l) st' a)
   | _=>False)
  | _=>False
 | .lk _ _ _ _=>False
 | .xw x i=>match st.ev x with
  | .w g t (.tp vs)=>match vs[i]? with
   | some y=>k (Aa g t y) st a
   | none=>False
  | _=>False
 | .sw n x y=>match st.ev x with
  | .p kk off=>match st.ev y with
   | .w g t (.a cs)=>match az st.bx kk.d with
    | some bs=>eA (decide (kk.dp=E.dp)&&off==0&&cs.length==n&&decide (n≤bs.length)) (k .u {st with bx:=hY st.bx kk.d (putCells bs 0 (cs.map (.w g t)))} a)
    | none=>False
   | _=>False
  | _=>False
 | .lw n x=>match st.ev x with
  | .p kk off=>rr E st kk a fun cs a=>eA (decide (off+n≤cs.length)) (match NM ((cs.drop off).take n) with
   | some y=>eA (y.2.2.all AV.one) (k (.w y.1 y.2.1 (.a y.2.2)) st a)
   | none=>False)
  | _=>False
 | .sp f x=>match st.ev x with
  | .w g t y=>Ω f [y]=some .u∧k .u (st.pA g) a
  | _=>False
end
section
variable {G:qn}{Ω:cI}{E:Env}{st:St}{d:Option Nat}
def Told(o:lJ)(k:KW)(G:qn)(Ω:cI)(E:Env)(st:St)(d:Option Nat):Prop:=∃ x st' r,execOp (call G Ω) Ω E st d o=some (x,st')∧k x st' r
theorem Told.mk{o:lJ}{k:KW}{x:AV}{st':St}{r:AT}(h:execOp (call G Ω) Ω E st d o=some (x,st'))(hk:k x st' r):Told o k G Ω E st d:=⟨x,st',r,h,hk⟩
theorem tQ{sz:Nat}{es:List AV}{j:Nat}{e:AV}{f:AV→AV}(h:es[j]? =some e)(hn:e.nc=sz):elemAt sz st es[j]? f=some (f e,st):=by
 rw [h];simp only [elemAt,Option.bind_some,hn,if_true]
theorem P1{op:BinOp}{bl:Bool}{x y:aP}{a:AT}{k:KW}(h:PW st op bl (st.ev x) (st.ev y) a k):Told (.bo op bl x y) k G Ω E st d:=by
 unfold PW at h
 split at h
 ·rename_i ki m ki' n hx hy
  split at h
  ·rename_i hki
   subst hki
   split at h
   ·obtain ⟨r,a',h1,h2⟩:=oc h
    exact .mk (by simp only [execOp,hx,hy,n9,if_true,pz,h1,Option.bind_some]) h2
   ·obtain ⟨r,a',h1,h2⟩:=oc h
    exact .mk (by simp only [execOp,hx,hy,n9,if_true,pz,h1,Option.bind_some]) h2
   ·obtain ⟨r,a',h1,h2⟩:=oc h
    exact .mk (by simp only [execOp,hx,hy,n9,if_true,pz,h1,Option.bind_some]) h2
   ·obtain ⟨r,a',h0,h1,h2⟩:=oc h
    exact .mk (by simp only [execOp,hx,hy,n9,if_true,pz,if_neg h0,h1,Option.bind_some]) h2
   ·obtain ⟨r,a',h0,h1,h2⟩:=oc h
    exact .mk (by simp only [execOp,hx,hy,n9,if_true,pz,if_neg h0,h1,Option.bind_some]) h2
   ·exact .mk (by simp only [execOp,hx,hy,n9,if_true,pz,Option.bind_some]) h
   ·exact .mk (by simp only [execOp,hx,hy,n9,if_true,pz,Option.bind_some]) h
   ·exact .mk (by simp only [execOp,hx,hy,n9,if_true,pz,Option.bind_some]) h
   ·exact .mk (by simp only [execOp,hx,hy,n9,if_true,pz,Option.bind_some]) h
   ·exact .mk (by simp only [execOp,hx,hy,n9,if_true,pz,Option.bind_some]) h
   ·exact .mk (by simp only [execOp,hx,hy,n9,if_true,pz,Option.bind_some]) h
   ·exact h.elim
  ·exact h.elim
 ·rename_i m n hx hy
  split at h
  ·exact .mk (by simp only [execOp,hx,hy,n9,if_true,Option.bind_some]) h
  ·exact .mk (by simp only [execOp,hx,hy,n9,if_true,Option.bind_some]) h
  ·exact h.elim
 ·rename_i m n hx hy
  split at h
  ·obtain ⟨r,a',h0,h1,h2⟩:=xd h
   exact .mk (by simp only [execOp,hx,hy,n9,if_pos h0,h1,Option.bind_some]) h2
  ·exact .mk (by simp only [execOp,hx,hy,n9,Option.bind_some]) h
  ·exact .mk (by simp only [execOp,hx,hy,n9,Option.bind_some]) h
  ·exact h.elim
 ·exact h.elim
theorem P2{n:Option Nat}{x:aP}{a:AT}{k:KW}(h:PX E st n (st.ev x) a k):Told (.ld n x) k G Ω E st d:=by
 unfold PX at h
 split at h
 ·rename_i kk off hx
  obtain ⟨cs,r,h1,h2⟩:=km h
  split at h2
  ·rename_i t es hp
   exact .mk (by simp only [execOp,hx,h1,hp,Option.bind_some]) h2
  ·rename_i y hy hp
   obtain ⟨h3,h4⟩:=bO h2
   refine .mk (x:=y) (st':=st) ?_ h4
   simp only [execOp,hx,h1,hp,Option.bind_some,if_pos h3]
  ·exact h2.elim
 ·rename_i y off hx
  split at h
  ·rename_i z hp
   exact .mk (by simp only [execOp,hx,hp,Option.bind_some]) h
  ·exact h.elim
 ·rename_i pl i sz off hx
  obtain ⟨t,es,r,h1,h2⟩:=eK h
  obtain ⟨e,r',h3,h4,h5⟩:=sL h2
  split at h5
  ·rename_i z hp
   exact .mk (by simp only [execOp,hx,h1,h3,hp,h4,if_true,Option.bind_some]) h5
  ·exact h5.elim
 ·exact h.elim
theorem P3{n:Nat}{x y:aP}{a:AT}{k:KW}(h:PY E st n (st.ev x) (st.ev y) y a k):Told (.st n x y) k G Ω E st d:=by
 unfold PY at h
 split at h
 ·rename_i kk off hx
  obtain ⟨hro,h⟩:=h
  obtain ⟨cs,r,h1,h2⟩:=km h
  split at h2
  ·rename_i t es hy
   split at h2
   ·rename_i m
    obtain ⟨h3,h4⟩:=bO h2
    obtain ⟨r',h5⟩:=jF h4
    exact .mk (by simp only [execOp,hx,kn hro,if_true,h1,hy,Option.bind_some,if_pos h3]) h5
   ·exact h2.elim
  ·rename_i pl lo len hy
   obtain ⟨rfl,h2⟩:=h2
   obtain ⟨h3,h4⟩:=bO h2
   obtain ⟨t,es,r1,h5,h6⟩:=eK h4
   obtain ⟨es',r2,h7,rfl,h9⟩:=iT h6
   obtain ⟨r',h10⟩:=jF h9
   simp only [Bool.and_eq_true] at h3
   exact .mk (by simp only [execOp,hx,kn hro,if_true,h1,hy,Option.bind_some,h3.1,h3.2,Bool.and_self,decide_true,Bool.true_and,h5,if_pos h7,true_and,and_self]) h10
  ·rename_i y' hy1 hy2
   obtain ⟨h0,h2⟩:=h2
   obtain ⟨h3,h4⟩:=bO h2
   obtain ⟨r',h5⟩:=jF h4
   have h6:((st.ev y).copy&&(st.ev y).nc==n&&(st.ev y).cl.all AV.one&&(st.ev y).deep kk.dp&&decide (off+n≤cs.length))=true:=by
    simp only [Bool.and_eq_true] at h3 ⊢
    exact ⟨⟨h3.1,h0⟩,h3.2⟩
   refine .mk (x:=.u) (st':=st.aL E.dp kk (putCells cs off (st.ev y).cl)) ?_ h5
   simp only [execOp,hx,kn hro,if_true,h1,Option.bind_some,if_pos h6]
 ·rename_i pl i sz off hx
  obtain ⟨hro,h⟩:=h
  obtain ⟨t,es,r,h1,h2⟩:=eK h
  obtain ⟨e,r1,h3,h4⟩:=sK h2
  obtain ⟨h5,h6⟩:=bO h4
  obtain ⟨es',r2,rfl,h8⟩:=iT h6
  obtain ⟨st',r3,h9,h10⟩:=xf h8
  exact .mk (by simp only [execOp,hx,kn hro,if_true,h1,h3,Option.bind_some,if_pos h5,h9]) h10
 ·exact h.elim
theorem sv{x:Option aP}{dflt:Nat}{a:AT}{k:Nat→AT→Prop}(h:zg (x.map st.ev) dflt a k):∃ j r,kL st x dflt=some j∧k j r:=by
 cases x with
 | none=>exact ⟨dflt,a,rfl,h⟩
 | some y=>
  obtain ⟨j,r,h1,h2⟩:=yj (x:=st.ev y) h
  exact ⟨j,r,h1,h2⟩
theorem P4{t sz:Nat}{x:aP}{lo hi:Option aP}{a:AT}{k:KW}(h:PZ E st t sz (st.ev x) (lo.map st.ev) (hi.map st.ev) a k):Told (.sl t sz x lo hi) k G Ω E st d:=by
 unfold PZ at h
 split at h
 ·rename_i l hx
  obtain ⟨i,r1,h1,h2⟩:=sv h
  obtain ⟨j,r2,h3,h4⟩:=sv h2
  obtain ⟨z,r3,rfl,h5,h6,rfl,h8⟩:=xd h4
  exact .mk (by simp [execOp,hx,h1,h3,h5,h6]) h8
 ·rename_i t' es hx
  obtain ⟨i,r1,h1,h2⟩:=sv h
  obtain ⟨j,r2,h3,h4⟩:=sv h2
  obtain ⟨z,r3,h0,hall,h5,h6,rfl,h8⟩:=iT h4
  exact .mk (by simp only [execOp,hx,h1,h3,Option.bind_some,hall,bne_iff_ne,ne_eq,h0,not_false_eq_true,h5,h6,decide_true,Bool.and_true,Bool.and_self,if_true]) h8
 ·rename_i pl hx
  obtain ⟨t',es,r0,hr,h⟩:=eK h
  obtain ⟨i,r1,h1,h2⟩:=sv h
  obtain ⟨j,r2,h3,h4⟩:=sv h2
  obtain ⟨m,r3,h5⟩:=Jc h4
  obtain ⟨h6,h7,h8,rfl,h10⟩:=bO h5
  exact .mk (by simp only [execOp,hx,hr,h1,h3,Option.bind_some,h6,h7,h8,decide_true,Bool.and_self,if_true]) h10
 ·exact h.elim
theorem yQ{t:TypeId}{x:aP}{a:AT}{k:List AV→St→AT→Prop}(h:vI E st t x a k):∃ es st' r,consume E st t x=some (es,st')∧k es st' r:=by
 unfold vI at h
 split at h
 ·exact ⟨_,_,a,rfl,h⟩
 ·exact h.elim
 ·rename_i m
  split at h
  ·rename_i hx
   exact ⟨_,_,a,by simp only [consume,hx],h⟩
  ·rename_i t' es hx
   obtain ⟨h1,h2⟩:=bO h
   exact ⟨_,_,a,by simp only [consume,hx,if_pos (beq_iff_eq.1 h1)],h2⟩
  ·rename_i pl hx
   obtain ⟨hro,h⟩:=h
   obtain ⟨t',es,r,h1,h2⟩:=eK h
   obtain ⟨h3,h4⟩:=bO h2
   obtain ⟨st',r',h5,h6⟩:=xf h4
   exact ⟨_,_,r',by simp only [consume,hx,kn hro,if_true,h1,Option.bind_some,if_pos (beq_iff_eq.1 h3),h5],h6⟩
  ·rename_i pl lo len hx
   obtain ⟨hro,h⟩:=h
   obtain ⟨h0,h⟩:=bO h
   obtain ⟨t',es,r,h1,h2⟩:=eK h
   obtain ⟨es',r2,h3,h4,rfl,h6⟩:=iT h2
   obtain ⟨st',r',h7,h8⟩:=xf h6
   exact ⟨_,_,r',by simp only [consume,hx,kn hro,h0,Bool.and_self,if_true,h1,Option.bind_some,if_pos (And.intro h3 h4),h7],h8⟩
  ·exact h.elim
theorem P5{sz:Nat}{arr:Option Nat}{x i:aP}{j:Nat}{a:AT}{k:KW}(hj:lK (st.ev i)=some j)(h:PV E st sz arr (st.ev x) x j a k):Told (.ia sz arr x i) k G Ω E st d:=by
 unfold PV at h
 split at h
 ·rename_i len
  obtain ⟨h1,h⟩:=h
  split at h
  ·rename_i kk o hx
   exact .mk (by simp only [execOp,hj,Option.bind_some,if_pos h1,hx]) h
  ·rename_i y o hx
   exact .mk (by simp only [execOp,hj,Option.bind_some,if_pos h1,hx]) h
  ·exact h.elim
 ·split at h
  ·rename_i t es hx
   obtain ⟨e,r,h1,h2,h3⟩:=sL h
   exact .mk (by simp only [execOp,hj,Option.bind_some,hx];exact tQ h1 h2) h3
  ·rename_i t es hx
   split at h
   ·rename_i m
    obtain ⟨e,r,h1,h2,h3⟩:=sL h
    exact .mk (by simp only [execOp,hj,Option.bind_some,hx];exact tQ h1 h2) h3
   ·exact h.elim
  ·rename_i pl hx
   obtain ⟨t,es,r0,h0,h⟩:=eK h
   obtain ⟨e,r,h1,h2,h3⟩:=sL h
   exact .mk (by simp only [execOp,hj,Option.bind_some,hx,h0];exact tQ h1 h2) h3
  ·rename_i pl lo len hx
   obtain ⟨t,es,r0,h0,h4,h5,h⟩:=eK h
   obtain ⟨e,r,h1,h2,h3⟩:=sL h
   exact .mk (by simp only [execOp,hj,Option.bind_some,hx,if_pos h4,h0,if_pos h5];exact tQ h1 h2) h3
  ·exact h.elim
theorem ES{m:Nat}{f:FuncId}{args:List AV}{a:AT}{k:KW}(h:Jd G Ω E st m f args a k):∃ x r,fx (call G Ω) Ω E st m f args=some (x,st)∧k x st r:=by
 unfold Jd at h
 split at h
 ·obtain ⟨ys,ts,r,h1,h2⟩:=oL h
  obtain ⟨x,r1,h3,h4⟩:=sK h2
  have h5:∃ b,(x.pure&&(ts.isEmpty||x.off ts))=true∧b=r1∧k x st b:=by
   split at h4
   ·obtain ⟨h5,h6⟩:=bO h4
    exact ⟨r1,by simp [h5],rfl,h6⟩
   ·exact ⟨r1,by simp [h4.1,h4.2.1],rfl,h4.2.2⟩
  obtain ⟨b,h6,rfl,h7⟩:=h5
  exact ⟨x,b,by simp only [fx,h1,Option.bind_some,h3,h6,if_true],h7⟩
 ·obtain ⟨ys,ts,r,h1,h2⟩:=oL h
  obtain ⟨x,r1,h3,h4⟩:=sK h2
  have h5:∃ b,(x.pure&&(ts.isEmpty||x.off ts))=true∧b=r1∧k x st b:=by
   split at h4
   ·obtain ⟨h5,h6⟩:=bO h4
    exact ⟨r1,by simp [h5],rfl,h6⟩
   ·exact ⟨r1,by simp [h4.1,h4.2.1],rfl,h4.2.2⟩
  obtain ⟨b,h6,rfl,h7⟩:=h5
  exact ⟨x,b,by simp only [fx,h1,Option.bind_some,h3,h6,if_true],h7⟩
 ·exact h.elim
theorem Je{f:FuncId}{args:List AV}{a:AT}{k:KW}(h:Mm G Ω E st f args a k):∃ x st' r,kg (call G Ω) Ω E st f args=some (x,st')∧k x st' r:=by
 unfold Mm at h
 split at h
 ·rename_i hc
  obtain ⟨x,r,h1,h2⟩:=ES h
  exact ⟨x,st,r,by rw [kg,if_pos hc];exact h1,h2⟩
 ·rename_i hc
  obtain ⟨h1,h2,h⟩:=h
  obtain ⟨h3,h⟩:=bO h
  obtain ⟨x,r1,h⟩:=sK h
  obtain ⟨hp2,r2,h⟩:=u2 h
  obtain ⟨bx,r3,h⟩:=Hs h
  obtain ⟨hp3,r4,h4,rfl,rfl,h5⟩:=u2 h
  refine ⟨x,st.back E.dp hp2,r4,?_,h5⟩
  rw [kg,if_neg (by rw [hc];simp)]
  simp only [h1,h2,h3,Bool.not_false,Bool.and_self,if_true,h4,Option.bind_some]
theorem Jf{f:FuncId}{args:List AV}{a:AT}{k:KW}(h:P0 G Ω E st f args a k):∃ x r,kh (call G Ω) E st f args=some (x,st)∧k x st r:=by
 obtain ⟨h1,h⟩:=h
 obtain ⟨h2,h⟩:=bO h
 obtain ⟨x,r1,h⟩:=sK h
 obtain ⟨hp2,r2,h3,h⟩:=u2 h
 obtain ⟨h4,h5⟩:=bO h
 exact ⟨x,r2,by simp only [kh,h1,h2,Bool.and_self,if_true,h3,Option.bind_some,h4],h5⟩
theorem ET{o:lJ}{a:AT}{k:KW}(h:eL G Ω E st d a o k):Told o k G Ω E st d:=by
 cases o with
 | mv x=>
  simp only [eL] at h
  split at h
  ·rename_i t es hx
   split at h
   ·exact .mk (by simp only [execOp,hx]) h
   ·exact h.elim
  ·rename_i hx
   refine .mk (x:=st.ev x) (st':=st) ?_ h
   simp only [execOp]
 | as x=>
  cases x with
  | c y=>
   obtain ⟨h1,h2⟩:=bO h
   exact .mk (by simp only [execOp,h1,if_true]) h2
  | t n=>
   simp only [eL] at h
   split at h
   ·rename_i t es hx
    split at h
    ·exact .mk (by simp only [execOp,hx,Option.bind_some]) h
    ·exact h.elim
   ·rename_i pl lo len hx
    split at h
    ·rename_i dd
     obtain ⟨own,r,h⟩:=pG h
     cases own with
     | true=>
      obtain ⟨rfl,h⟩:=h
      obtain ⟨h1,h⟩:=bO h
      obtain ⟨t,es,r1,h2,h⟩:=eK h
      obtain ⟨es',r2,h3,rfl,h5⟩:=iT h
      exact .mk (by simp only [execOp,hx,Option.bind_some,h1,decide_true,Bool.and_self,and_self,if_true,h2,if_pos h3]) h5
     | false=>
      obtain ⟨h1,h2⟩:=h
      refine .mk (x:=.v pl lo len) (st':=st) ?_ h2
      simp only [execOp,hx,Option.bind_some]
      rw [if_neg]
      simp only [Bool.and_eq_true,decide_eq_true_eq]
      rintro ⟨h3,h4⟩
      rw [h1 h3] at h4
      cases h4
    ·exact h.elim
   ·rename_i hx1 hx2
    obtain ⟨h1,h2⟩:=bO h
    refine .mk (x:=an st.fr n) (st':=st) ?_ h2
    simp only [execOp,if_pos h1]
 | pk c x y=>
  simp only [eL] at h
  split at h
  ·rename_i z hc
   obtain ⟨w,r,rfl,h⟩:=pG h
   cases z with
   | true=>
    obtain ⟨h1,h2⟩:=bO h
    exact .mk (by simp only [execOp,hc,q7,Option.bind_some,if_true,h1]) h2
   | false=>
    obtain ⟨h1,h2⟩:=bO h
    exact .mk (by simp only [execOp,hc,q7,Option.bind_some,Bool.false_eq_true,if_false,h1,if_true]) h2
  ·exact h.elim
 | bx x=>
  simp only [eL] at h
  split at h
  ·rename_i dd
   obtain ⟨h1,h⟩:=h
   obtain ⟨h2,h3⟩:=bO h
   simp only [Bool.and_eq_true] at h1 h2
   exact .mk (by simp only [execOp,Option.bind_some,h1.1,h1.2.1,h1.2.2,h2.1.1,h2.1.2,h2.2,Bool.and_self,if_true]) h3
  ·exact h.elim
 | al zs=>
  simp only [eL] at h
  split at h
  ·rename_i dd
   obtain ⟨h1,h⟩:=h
   obtain ⟨h2,h3⟩:=bO h
   simp only [Bool.and_eq_true] at h1
   exact .mk (by simp only [execOp,Option.bind_some,h1.1,h1.2,h2,Bool.and_self,if_true]) h3
  ·exact h.elim
 | ld n x=>exact P2 h
 | st n x y=>exact P3 h
 | fa off x=>
  simp only [eL] at h
  split at h
  ·rename_i hx;exact .mk (by simp only [execOp,hx]) h
  ·rename_i hx;exact .mk (by simp only [execOp,hx]) h
  ·rename_i hx
   obtain ⟨t,es,r,h1,h2,h3⟩:=eK h
   exact .mk (by simp only [execOp,hx,h1,Option.bind_some,if_pos h2]) h3
  ·exact h.elim
 | fd n off x=>
  simp only [eL] at h
  split at h
  ·rename_i cs hx
   split at h
   ·rename_i y hy
    exact .mk (by simp only [execOp,hx,hy,Option.bind_some]) h
   ·exact h.elim
  ·exact h.elim
 | ia sz arr x i=>
  obtain ⟨j,r,h1,h2⟩:=yj (x:=st.ev i) h
  exact P5 h1 h2
 | ix x i=>
  simp only [eL] at h
  split at h
  ·rename_i l hx
   obtain ⟨j,r,h1,h2⟩:=yj h
   obtain ⟨c,r2,h3,h4⟩:=oc h2
   cases hl:l[j]? with
   | none=>rw [hl] at h3;cases h3
   | some z=>
    rw [hl] at h3
    obtain rfl:=Option.some.inj h3
    exact .mk (by simp only [execOp,hx,h1,Option.bind_some,hl]) h4
  ·exact h.elim
 | bo op bl x y=>exact P1 h
 | no x=>
  simp only [eL] at h
  split at h
  ·rename_i y hx
   exact .mk (by simp only [execOp,hx,q7,Option.bind_some]) h
  ·exact h.elim
 | ng x=>
  simp only [eL] at h
  split at h
  ·rename_i hx
   obtain ⟨r,a',h1,h2⟩:=oc h
   exact .mk (by simp only [execOp,hx,h1]) h2
  ·exact h.elim
 | ae ks ng x y=>
  simp only [eL] at h
  split at h
  ·rename_i hx hy
   obtain ⟨r,a',h1,h2⟩:=pG h
   exact .mk (by simp only [execOp,hx,hy,h1,Option.bind_some]) h2
  ·exact h.elim
 | cs x=>
  simp only [eL] at h
  split at h
  ·rename_i hx
   obtain ⟨r,a',h1,h2,h3⟩:=xd h
   exact .mk (by simp only [execOp,hx,if_pos h1,h2]) h3
  ·exact h.elim
 | cv ki x=>
  simp only [eL] at h
  split at h
  ·rename_i hx
   obtain ⟨r,a',h1,h2⟩:=oc h
   exact .mk (by simp only [execOp,hx,h1]) h2
  ·exact h.elim
 | bs t sz es=>
  simp only [eL] at h
  split at h
  ·obtain ⟨h1,h2⟩:=bO h
   obtain ⟨vs,r,rfl,h3⟩:=iT h2
   exact .mk (by simp only [execOp,Option.bind_some,h1,if_true]) h3
  ·exact h.elim
 | bd zs fs=>
  obtain ⟨h1,h2⟩:=bO h
  exact .mk (by simp only [execOp,h1,if_true]) h2
 | ms t sz by_ x n=>
  simp only [eL] at h
  split at h
  ·obtain ⟨m,r,h1,h2⟩:=yj h
   obtain ⟨es,r2,h3,h4,rfl,h6⟩:=iT h2
   exact .mk (by simp only [execOp,Option.bind_some,h1,h3,h4,decide_true,Bool.and_self,if_true]) h6
  ·exact h.elim
 | sl t sz x lo hi=>exact P4 h
 | ex x i=>
  simp only [eL] at h
  split at h
  ·rename_i vs hx
   split at h
   ·rename_i y hy
    exact .mk (by simp only [execOp,hx,hy,Option.bind_some]) h
   ·exact h.elim
  ·exact h.elim
 | mf f caps=>
  obtain ⟨h1,h2⟩:=bO h
  exact .mk (by simp only [execOp,h1,if_true]) h2
 | ca m f args=>
  obtain ⟨x,r,h1,h2⟩:=ES h
  exact .mk h1 h2
 | cf m x args=>
  simp only [eL] at h
  split at h
  ·rename_i f caps hx
   obtain ⟨x,r,h1,h2⟩:=ES h
   exact .mk (by simp only [execOp,hx];exact h1) h2
  ·exact h.elim
 | c2 f args=>
  obtain ⟨x,st',r,h1,h2⟩:=Je h
  exact .mk h1 h2
 | d2 x args=>
  simp only [eL] at h
  split at h
  ·rename_i f caps hx
   obtain ⟨x,st',r,h1,h2⟩:=Je h
   exact .mk (by simp only [execOp,hx];exact h1) h2
  ·exact h.elim
 | c3 f args=>
  obtain ⟨x,r,h1,h2⟩:=Jf h
  exact .mk h1 h2
 | d3 x args=>
  simp only [eL] at h
  split at h
  ·rename_i f caps hx
   obtain ⟨x,r,h1,h2⟩:=Jf h
   exact .mk (by simp only [execOp,hx];exact h1) h2
  ·exact h.elim
 | cn f args=>
  simp only [eL] at h
  split at h
  ·rename_i dd
   obtain ⟨h1,h2,h⟩:=h
   obtain ⟨h3,h⟩:=bO h
   obtain ⟨cs,r1,h⟩:=iT h
   obtain ⟨hp2,r2,h⟩:=u2 h
   obtain ⟨bx,r3,h⟩:=Hs h
   obtain ⟨hp3,r4,h4,rfl,rfl,h5,h6⟩:=u2 h
   refine .mk (x:=.p ⟨E.dp,dd⟩ 0) (st':={(st.back E.dp hp2) with bx:=(dd,cs)::(st.back E.dp hp2).bx}) ?_ h6
   have h5':z8 E.dp (st.back E.dp hp2) dd=true:=h5
   simp only [execOp,Option.bind_some,uZ,h1,h2,h3,Bool.not_false,Bool.and_self,if_true,h4,h5']
  ·exact h.elim
 | cr t f args=>
  simp only [eL] at h
  split at h
  ·rename_i dd
   obtain ⟨h1,h2,h3⟩:=bO h
   exact .mk (by simp only [execOp,Option.bind_some,Bq,h1,if_true,h2]) h3
  ·exact h.elim
 | ln str x=>
  simp only [eL] at h
  split at h
  ·rename_i l hx
   obtain ⟨h1,h2⟩:=bO h
   obtain ⟨n,r,h3,h4⟩:=oc h2
   exact .mk (by simp only [execOp,hx,h1,if_true,h3]) h4
  ·rename_i hx
   obtain ⟨h1,h2⟩:=bO h
   obtain ⟨t,es,r,h3,h4⟩:=xh h2
   obtain ⟨n,r,h5,h6⟩:=oc h4
   have hs:str=false:=by simpa using h1
   refine .mk (x:=.i .i64 n) (st':=st) ?_ h6
   simp only [execOp,hs,h3,Bool.false_eq_true,if_false,Option.bind_some,h5]
 | ap t sz by_ x y=>
  simp only [eL] at h
  split at h
  ·obtain ⟨t',ys,r,h1,h2⟩:=xh h
   obtain ⟨es,st',r2,h3,h4⟩:=yQ h2
   obtain ⟨z,r3,h5,h6,h7,rfl,h9⟩:=iT h4
   exact .mk (by simp only [execOp,Option.bind_some,h1,h3,h5,h6,h7,decide_true,Bool.and_self,if_true]) h9
  ·exact h.elim
 | nc x=>
  simp only [eL] at h
  split at h
  ·rename_i hx;exact .mk (by simp only [execOp,hx]) h
  ·rename_i hx;exact .mk (by simp only [execOp,hx]) h
  ·rename_i hx;exact .mk (by simp only [execOp,hx]) h
  ·exact h.elim
 | cw t f args=>
  simp only [eL] at h
  split at h
  ·rename_i dd
   obtain ⟨h1,h⟩:=bO h
   obtain ⟨ys,r,h⟩:=iT h
   obtain ⟨x,r,h2,h3,h4,h5⟩:=sK h
   exact .mk (by simp only [execOp,Option.bind_some,Br,if_pos h1,h2,h3,h4,if_true]) h5
  ·exact h.elim
 | vi g f args=>exact (show False from h).elim
 | ch f args sl dl ow=>exact (show False from h).elim
 | bz t off x=>
  simp only [eL] at h
  split at h
  ·rename_i dd
   obtain ⟨h1,h⟩:=h
   obtain ⟨h2,h3⟩:=bO h
   simp only [Bool.and_eq_true] at h1 h2
   split at h3
   ·rename_i hz
    refine .mk (x:=.p ⟨E.dp,dd⟩ 0) (st':={st with bx:=(dd,(st.ev x).cl.set off (.bp t ⟨E.dp,dd⟩ false))::st.bx}) ?_ h3
    simp only [execOp,Option.bind_some,h1.1,h1.2.1,h1.2.2,h2.1.1,h2.1.2,h2.2,Bool.and_self,if_true,hz,St.aL,hY]
   ·exact h3.elim
  ·exact h.elim
 | lz x=>
  simp only [eL] at h
  split at h
  ·rename_i kk off hx
   obtain ⟨cs,r,h1,h⟩:=km h
   split at h
   ·rename_i t k' u hc
    obtain ⟨v,r1,rfl,h⟩:=pG h
    cases u with
    | true=>exact .mk (by simp only [execOp,hx,h1,Option.bind_some,hc,if_true]) h
    | false=>exact .mk (by simp only [execOp,hx,h1,Option.bind_some,hc,Bool.false_eq_true,if_false]) h
   ·exact h.elim
  ·exact h.elim
 | pe ng x y=>
  simp only [eL] at h
  split at h
  ·rename_i hx hy;exact .mk (by simp only [execOp,hx,hy]) h
  ·rename_i hx hy;exact .mk (by simp only [execOp,hx,hy]) h
  ·rename_i hx hy;exact .mk (by simp only [execOp,hx,hy,if_pos h.1]) h.2
  ·exact h.elim
 | cp t n off x=>
  simp only [eL] at h
  split at h
  ·rename_i kk o hx
   obtain ⟨cs,r,h1,h⟩:=km h
   obtain ⟨h2,h⟩:=bO h
   simp only [Bool.and_eq_true,beq_iff_eq] at h2
   split at h
   ·rename_i t' k' u hc
    obtain ⟨h3,h⟩:=bO h
    exact .mk (by simp only [execOp,hx,h1,Option.bind_some,if_pos h2,hc,if_pos (beq_iff_eq.1 h3)]) h
   ·exact h.elim
  ·exact h.elim
 | aq t x y=>
  simp only [eL] at h
  split at h
  ·split at h
   ·rename_i l hy
    obtain ⟨es,st',r2,h3,h4⟩:=yQ h
    obtain ⟨z,r3,h5,rfl,h9⟩:=iT h4
    exact .mk (by simp only [execOp,Option.bind_some,hy,h3,h5.1,h5.2,decide_true,Bool.and_self,if_true]) h9
   ·exact h.elim
  ·exact h.elim
 | sb f x=>
  simp only [eL] at h
  split at h
  ·rename_i kk off hx
   obtain ⟨hro,h⟩:=h
   obtain ⟨cs,r,h1,h⟩:=km h
   split at h
   ·rename_i t es hc
    obtain ⟨l,r1,h2,h3,h4,h⟩:=xd h
    obtain ⟨r',h5⟩:=jF h
    exact .mk (by simp only [execOp,hx,kn hro,if_true,h1,Option.bind_some,hc,h2,h3,if_neg h4]) h5
   ·exact h.elim
  ·exact h.elim
 | tx x=>
  simp only [eL] at h
  obtain ⟨t,es,r,h1,h2⟩:=xh h
  obtain ⟨l,r1,h3,h4,h5⟩:=xd h2
  exact .mk (by simp only [execOp,h1,Option.bind_some,h3,if_neg h4]) h5
 | sz x y=>
  simp only [eL] at h
  split at h
  ·rename_i kk off k2 o2 hx hy
   obtain ⟨hro,h⟩:=h
   obtain ⟨cs,r,h1,h⟩:=km h
   split at h
   ·rename_i t k' u hc
    obtain ⟨h2,h⟩:=h
    obtain ⟨r',h5⟩:=jF h
    exact .mk (by simp only [execOp,hx,hy,kn hro,if_true,h1,Option.bind_some,hc,if_pos h2]) h5
   ·exact h.elim
  ·exact h.elim
 | lk n x y lv=>exact (show False from h).elim
 | xw x i=>
  simp only [eL] at h
  split at h
  ·rename_i g t vs hx
   split at h
   ·rename_i y hy
    exact .mk (by simp only [execOp,hx,hy,Option.bind_some]) h
   ·exact h.elim
  ·exact h.elim
 | sw n x y=>
  simp only [eL] at h
  split at h
  ·rename_i kk off hx
   split at h
   ·rename_i g t cs hy
    split at h
    ·rename_i bs hb
     obtain ⟨h1,h⟩:=bO h
     simp only [Bool.and_eq_true,decide_eq_true_eq,beq_iff_eq] at h1
     obtain ⟨⟨⟨h2,h3⟩,h4⟩,h5⟩:=h1
     exact .mk (by simp only [execOp,hx,hy,hb,h2,h3,h4,h5,and_self,if_true,Option.bind_some,St.aL]) h
    ·exact h.elim
   ·exact h.elim
  ·exact h.elim
 | lw n x=>
  simp only [eL] at h
  split at h
  ·rename_i kk off hx
   obtain ⟨cs,r,h1,h⟩:=km h
   obtain ⟨h2,h⟩:=bO h
   split at h
   ·rename_i y hy
    obtain ⟨h3,h⟩:=bO h
    exact .mk (by simp only [execOp,hx,h1,Option.bind_some,if_pos (of_decide_eq_true h2),hy,h3,if_true]) h
   ·exact h.elim
  ·exact h.elim
 | sp f x=>
  simp only [eL] at h
  split at h
  ·rename_i g t y hx
   exact .mk (by simp only [execOp,hx,h.1,Option.bind_some]) h.2
  ·exact h.elim
end
section
variable (G:qn)(Ω:cI)(E:Env)
abbrev KS:=St→AT→Prop
noncomputable def gW(st:St)(g:cL)(a:AT)(q:KS):Prop:=
 match g.g with
 | none=>eL G Ω E st g.d a g.o fun x st' a=>q (put st' g.d (eh g.fz x)) a
 | some (j,want)=>match an st.fr j with
  | .b x=>yP a fun y a=>(x==want)=y∧(match y with
   | true=>eL G Ω E st g.d a g.o fun x st' a=>q (put st' g.d (eh g.fz x)) a
   | false=>q (put st g.d .sk) a)
  | .sk=>q (put st g.d .sk) a
  | _=>False
def zh(dp:Nat)(p:bI)(v:St)(q:Prop):Prop:=
 match p.p.o with
 | .st _ x y=>(match LB (v.ev y) with
  | false=>q
  | true=>match v.ev x with
   | .p k _=>k.dp=dp∧eA (p.vb==[k.d]&&(match y with
    | .t m=>p.cs==[m]
    | .c _=>false)) q
   | _=>False)
 | .ap _ _ _ x _=>eA (Bt (v.ev x)==(p.cs.length==2)) q
 | _=>q
theorem GL{dp:Nat}{p:bI}{v:St}{q:Prop}(h:zh dp p v q):kj dp p v=true∧q:=by
 unfold zh at h
 unfold kj
 split at h
 ·rename_i n x y ho
  simp only [ho]
  split at h
  ·rename_i hy
   exact ⟨by rw [hy];rfl,h⟩
  ·rename_i hy
   split at h
   ·rename_i k off hx
    obtain ⟨h1,h2⟩:=h
    obtain ⟨h3,h4⟩:=bO h2
    refine ⟨?_,h4⟩
    rw [hy,hx]
    simp only [Bool.and_eq_true] at h3
    simp only [h1,decide_true,h3.1,Bool.not_true,Bool.false_or,Bool.true_and]
    exact h3.2
   ·exact h.elim
 ·rename_i ho
  simp only [ho]
  exact bO h
 ·rename_i hne hna
  refine ⟨?_,h⟩
  split
  ·rename_i n x y ho
   exact (hne _ _ _ ho).elim
  ·rename_i ho
   exact (hna _ _ _ _ _ ho).elim
  ·rfl
noncomputable def H2(st:St)(p:bI)(a:AT)(q:KS):Prop:=
 eA (gx (view p st) p.p.o) (zh E.dp p (view p st) (eL G Ω E (view p st) p.p.d a p.p.o fun x v' a=>(cU E.dp p.nk x&&okB E.dp p.nb x)=true∧q ((effect p (x,v')).app st) a))
noncomputable def dW(st:St)(p:bI)(a:AT)(q:KS):Prop:=
 match p.lt with
 | true=>match p.p.g with
  | none=>H2 G Ω E st p a q
  | some (j,want)=>match an st.fr j with
   | .b x=>yP a fun y a=>(x==want)=y∧(match y with
    | true=>H2 G Ω E st p a q
    | false=>q ((⟨fZ p.p.d .sk,[],[],none⟩:bm).app st) a)
   | .sk=>q ((⟨fZ p.p.d .sk,[],[],none⟩:bm).app st) a
   | _=>False
 | false=>gW G Ω E st p.p a q
noncomputable def eB(kf kb:List Nat)(gs:List cL)(st:St):Option St:=(jw (call G Ω) Ω E st gs).map fun s=>s.bw kf kb
noncomputable def BB(kf kb:List Nat)(gs:List bI)(st:St):Option St:=(oy (call G Ω) Ω E st gs).map fun s=>s.bw kf kb
def P6(d:Option Nat)(m n:Nat)(d':Option Nat):Bool:=(match d,d' with
 | some x,some y=>x==y
 | none,none=>true
 | _,_=>false)&&m==n
noncomputable def xi(kf kb:List Nat):St→List cL→AT→KS→Prop
 | st,[],a,q=>q (st.bw kf kb) a
 | st,g::gs,a,q=>match a with
  | .jb d n b=>(match P6 g.d gs.length n d with
   | true=>fA b fun b=>match b with
    | .co (.jn X) r=>eB G Ω E kf kb (g::gs) st=some X∧q X r
    | _=>False
   | false=>gW G Ω E st g (.jb d n b) fun st a=>xi kf kb st gs a q)
  | a=>gW G Ω E st g a fun st a=>xi kf kb st gs a q
noncomputable def xj(kf kb:List Nat):St→List bI→AT→KS→Prop
 | st,[],a,q=>q (st.bw kf kb) a
 | st,p::ps,a,q=>match a with
  | .jb d n b=>(match P6 p.p.d ps.length n d with
   | true=>fA b fun b=>match b with
    | .co (.jn X) r=>BB G Ω E kf kb (p::ps) st=some X∧q X r
    | _=>False
   | false=>dW G Ω E st p (.jb d n b) fun st a=>xj kf kb st ps a q)
  | a=>dW G Ω E st p a fun st a=>xj kf kb st ps a q
def vJ(st:St)(p:tN)(a:AT)(q:KS):Prop:=
 match p with
 | .own d t=>match an st.fr d with
  | .n=>q ((st.aT (.s d)).b5 d (.o t [])) a
  | .o _ _=>q st a
  | _=>False
 | .fz d=>match an st.fr d with
  | .o t es=>q (st.b5 d (.l t es)) a
  | _=>False
 | .ownC d off t=>match an st.fr d with
  | .p k o=>E.ro=false∧(rr E st k a fun cs a=>match cs[o+off]? with
   | some .n=>mx E (st.aT (.c k (o+off))) k (cs.set (o+off) (.o t [])) a q
   | some (.o _ _)=>q st a
   | _=>False)
  | _=>False
 | .fzC d off=>match an st.fr d with
  | .p k o=>E.ro=false∧(rr E st k a fun cs a=>match cs[o+off]? with
   | some (.o t es)=>mx E st k (cs.set (o+off) (.l t es)) a q
   | _=>False)
  | _=>False
 | .fzB d agg=>match an st.fr d with
  | .p k 0=>k.dp=E.dp∧(match az st.bx k.d with
   | some cs=>eA (AV.b7 cs) (match agg with
    | true=>q {(st.b5 d (.e (.a cs) 0)) with bx:=st.bx.filter fun y=>y.1 !=k.d} a
    | false=>match cs with
     | [c]=>q {(st.b5 d (.e c 0)) with bx:=st.bx.filter fun y=>y.1 !=k.d} a
     | _=>False)
   | none=>False)
  | _=>False
def H3:St→List tN→AT→KS→Prop
 | st,[],a,q=>q st a
 | st,p::ps,a,q=>vJ E st p a fun st a=>H3 st ps a q
abbrev KX:=aK→St→AT→Prop
noncomputable def cW:AC→St→AT→KX→Prop
 | .sk,st,a,q=>q .nrm st a
 | .rg pre ops kf kb,st,a,q=>H3 E st pre a fun st a=>xi G Ω E kf kb st ops a fun st a=>q .nrm st a
 | .dg pre mks ops kf kb,st,a,q=>H3 E st pre a fun st a=>(mks.all (ez E.dp st)&&ops.all (Ab E.dp st))=true∧(xj G Ω E kf kb st ops a fun st a=>q .nrm st a)
 | .sq x y,st,a,q=>cW x st a fun e st a=>match e with
  | .nrm=>cW y st a q
  | e=>q e st a
 | .ite c x y,st,a,q=>match st.ev c with
  | .b z=>yP a fun w a=>z=w∧(match w with
   | true=>cW x st a q
   | false=>cW y st a q)
  | _=>False
 | .bl id x,st,a,q=>cW x st a fun e st a=>match e with
  | .ex id'=>if id'=id then q .nrm st a else q (.ex id') st a
  | e=>q e st a
 | .lp (.kp kf kb x),st,a,q=>Ks a fun e st' a=>run G Ω E (.lp (.kp kf kb x)) (st.bw kf kb)=some (e,st')∧q e st' a
 | .lp x,st,a,q=>Ks a fun e st' a=>run G Ω E (.lp x) st=some (e,st')∧q e st' a
 | .ex id,st,a,q=>q (.ex id) st a
 | .rt,st,a,q=>q .ret st a
 | .bad,_,_,_=>False
 | .kp kf kb x,st,a,q=>match a with
  | .fb b=>fA b fun b=>match b with
   | .co (.fr e st') r=>run G Ω E x (st.bw kf kb)=some (e,st')∧q e st' r
   | _=>False
  | _=>cW x (st.bw kf kb) a q
def Al(st:St)(x:AV)(a:AT)(q:AV→AT→Prop):Prop:=
 match x with
 | .o t es=>q (.l t es) a
 | .r (.s d)=>kO E st (.s d) a fun t es a=>q (.l t es) a
 | .r (.c k off)=>k.dp=E.dp∧(kO E st (.c k off) a fun t es a=>q (.l t es) a)
 | .v (.s d) lo len=>kO E st (.s d) a fun t es a=>rO a fun es' a=>lo+len≤es.length∧(es.drop lo).take len=es'∧q (.l t es') a
 | .v (.c _ _) _ _=>False
 | .q _ _ _ _=>False
 | .w _ _ _=>False
 | .bp _ _ _=>False
 | x=>q x a
def H4(st:St):List AV→AT→(List AV→AT→Prop)→Prop
 | [],a,q=>q [] a
 | x::xs,a,q=>Al E st x a fun y a=>H4 st xs a fun ys a=>q (y::ys) a
def H5(st:St)(z:RV)(a:AT)(q:AV→AT→Prop):Prop:=
 match z with
 | .t n=>Al E st (an st.fr n) a q
 | .c n sz=>match an st.fr n with
  | .p k off=>k.dp=E.dp∧(match az st.bx k.d with
   | some cs=>match pick sz off cs with
    | some (.a ds)=>H4 E st ds a fun ds a=>q (.a ds) a
    | some y=>Al E st y a q
    | none=>False
   | none=>False)
  | _=>False
def Kt(st:St):List RV→AT→(List AV→Prop)→Prop
 | [],_,q=>q []
 | z::zs,a,q=>H5 E st z a fun y a=>Kt st zs a fun ys=>q (y::ys)
noncomputable def EU(fn:bg)(ys:List AV)(hp:HP)(a:AT)(q:List AV→HP→Prop):Prop:=
 cW G Ω E fn.code ⟨kN 0 ys,[],hp⟩ a fun e st _=>match e with
  | .ex _=>False
  | _=>match fn.res with
   | [.t n]=>match an st.fr n with
    | .p k 0=>k.dp=E.dp∧(match az st.bx k.d with
     | some cs=>(cs.all su)=true∧q cs st.hp
     | none=>False)
    | _=>False
   | _=>False
noncomputable def H6(fn:bg)(ys:List AV)(hp:HP)(a:AT)(q:AV→HP→Prop):Prop:=
 cW G Ω E fn.code ⟨kN 0 ys,[],hp⟩ a fun e st a=>match e with
  | .ex _=>False
  | _=>Kt E st fn.res a fun xs=>eA (AV.b7 xs) (q (Hq xs) st.hp)
end
section
variable {G:qn}{Ω:cI}{E:Env}
theorem Mn{st:St}{g:cL}{a:AT}{q:KS}(h:gW G Ω E st g a q):∃ st' r,fu (call G Ω) Ω E st g=some st'∧q st' r:=by
 unfold gW at h
 split at h
 ·rename_i hg
  obtain ⟨x,st',r,h1,h2⟩:=ET h
  exact ⟨_,r,by simp only [fu,hg,h1,Option.bind_some],h2⟩
 ·rename_i j want hg
  split at h
  ·rename_i x hx
   obtain ⟨y,r,rfl,h⟩:=pG h
   split at h
   ·rename_i hy
    obtain ⟨x',st',r,h1,h2⟩:=ET h
    exact ⟨_,r,by simp only [fu,hg,hx,wX,Option.bind_some,hy,if_true,h1],h2⟩
   ·rename_i hy
    exact ⟨_,r,by simp only [fu,hg,hx,wX,Option.bind_some,hy,Bool.false_eq_true,if_false],h⟩
  ·rename_i hx
   exact ⟨_,a,by simp only [fu,hg,hx,wX,Option.bind_some,Bool.false_eq_true,if_false],h⟩
  ·exact h.elim
theorem EV{st:St}{p:bI}{a:AT}{q:KS}(h:H2 G Ω E st p a q):∃ P r,ib (call G Ω) Ω E p (view p st)=some P∧q (P.app st) r:=by
 obtain ⟨h0,h⟩:=bO h
 obtain ⟨h1,h⟩:=GL h
 obtain ⟨x,st',r,h2,h3,h4⟩:=ET h
 exact ⟨_,r,by simp only [ib,h0,h1,Bool.and_self,if_true,h2,Option.bind_some,h3],h4⟩
theorem WL{st:St}{p:bI}{a:AT}{q:KS}(h:dW G Ω E st p a q):∃ st' r,cN (call G Ω) Ω E st p=some st'∧q st' r:=by
 unfold dW at h
 split at h
 ·rename_i hlt
  split at h
  ·rename_i hg
   obtain ⟨P,r,h1,h2⟩:=EV h
   exact ⟨_,r,by simp only [cN,hlt,if_true,cM,hg,h1,Option.bind_some],h2⟩
  ·rename_i j want hg
   split at h
   ·rename_i x hx
    obtain ⟨y,r,rfl,h⟩:=pG h
    split at h
    ·rename_i hy
     obtain ⟨P,r,h1,h2⟩:=EV h
     exact ⟨_,r,by simp only [cN,hlt,if_true,cM,hg,hx,wX,hy,h1,Option.bind_some],h2⟩
    ·rename_i hy
     exact ⟨_,r,by simp only [cN,hlt,if_true,cM,hg,hx,wX,hy,Option.bind_some,Bool.false_eq_true,if_false],h⟩
   ·rename_i hx
    exact ⟨_,a,by simp only [cN,hlt,if_true,cM,hg,hx,wX,Option.bind_some,Bool.false_eq_true,if_false],h⟩
   ·exact h.elim
 ·rename_i hlt
  obtain ⟨st',r,h1,h2⟩:=Mn h
  exact ⟨st',r,by simp only [cN,hlt,Bool.false_eq_true,if_false,h1],h2⟩
theorem BC{kf kb:List Nat} : ∀ {gs:List cL}{st:St}{a:AT}{q:KS},xi G Ω E kf kb st gs a q→∃ st' r,eB G Ω E kf kb gs st=some st'∧q st' r
 | [],st,a,q,h=>⟨_,a,rfl,h⟩
 | g::gs,st,a,q,h=>by
  have key:∀ a',(gW G Ω E st g a' fun st a=>xi G Ω E kf kb st gs a q)→∃ st' r,eB G Ω E kf kb (g::gs) st=some st'∧q st' r:=by
   intro a' h
   obtain ⟨st1,r1,h1,h2⟩:=Mn h
   obtain ⟨st2,r2,h3,h4⟩:=BC h2
   exact ⟨st2,r2,by simp only [eB,jw,h1,Option.bind_some];exact h3,h4⟩
  unfold xi at h
  split at h
  ·split at h
   ·obtain ⟨b,h⟩:=dQ h
    split at h
    ·exact ⟨_,_,h.1,h.2⟩
    ·exact h.elim
   ·exact key _ h
  ·exact key _ h
theorem BD{kf kb:List Nat} : ∀ {gs:List bI}{st:St}{a:AT}{q:KS},xj G Ω E kf kb st gs a q→∃ st' r,BB G Ω E kf kb gs st=some st'∧q st' r
 | [],st,a,q,h=>⟨_,a,rfl,h⟩
 | g::gs,st,a,q,h=>by
  have key:∀ a',(dW G Ω E st g a' fun st a=>xj G Ω E kf kb st gs a q)→∃ st' r,BB G Ω E kf kb (g::gs) st=some st'∧q st' r:=by
   intro a' h
   obtain ⟨st1,r1,h1,h2⟩:=WL h
   obtain ⟨st2,r2,h3,h4⟩:=BD h2
   exact ⟨st2,r2,by simp only [BB,oy,h1,Option.bind_some];exact h3,h4⟩
  unfold xj at h
  split at h
  ·split at h
   ·obtain ⟨b,h⟩:=dQ h
    split at h
    ·exact ⟨_,_,h.1,h.2⟩
    ·exact h.elim
   ·exact key _ h
  ·exact key _ h
theorem Ku{st:St}{p:tN}{a:AT}{q:KS}(h:vJ E st p a q):∃ st' r,fy E st p=some st'∧q st' r:=by
 cases p with
 | own d t=>
  simp only [vJ] at h
  split at h
  ·rename_i hx;exact ⟨_,a,by simp only [fy,hx],h⟩
  ·rename_i hx;exact ⟨_,a,by simp only [fy,hx],h⟩
  ·exact h.elim
 | fz d=>
  simp only [vJ] at h
  split at h
  ·rename_i hx;exact ⟨_,a,by simp only [fy,hx],h⟩
  ·exact h.elim
 | ownC d off t=>
  simp only [vJ] at h
  split at h
  ·rename_i k o hx
   obtain ⟨hro,h⟩:=h
   obtain ⟨cs,r,h1,h2⟩:=km h
   split at h2
   ·rename_i hc
    obtain ⟨r',h3⟩:=jF h2
    exact ⟨_,r',by simp only [fy,hx,kn hro,if_true,h1,Option.bind_some,hc],h3⟩
   ·rename_i hc
    exact ⟨_,r,by simp only [fy,hx,kn hro,if_true,h1,Option.bind_some,hc],h2⟩
   ·exact h2.elim
  ·exact h.elim
 | fzC d off=>
  simp only [vJ] at h
  split at h
  ·rename_i k o hx
   obtain ⟨hro,h⟩:=h
   obtain ⟨cs,r,h1,h2⟩:=km h
   split at h2
   ·rename_i t es hc
    obtain ⟨r',h3⟩:=jF h2
    exact ⟨_,r',by simp only [fy,hx,kn hro,if_true,h1,Option.bind_some,hc],h3⟩
   ·exact h2.elim
  ·exact h.elim
 | fzB d agg=>
  simp only [vJ] at h
  split at h
  ·rename_i k hx
   obtain ⟨h1,h⟩:=h
   split at h
   ·rename_i cs hb
    obtain ⟨h2,h⟩:=bO h
    split at h
    ·exact ⟨_,a,by simp only [fy,hx,if_pos h1,hb,Option.bind_some,if_pos h2,if_true],h⟩
    ·split at h
     ·exact ⟨_,a,by simp only [fy,hx,if_pos h1,hb,Option.bind_some,if_pos h2,Bool.false_eq_true,if_false],h⟩
     ·exact h.elim
   ·exact h.elim
  ·exact h.elim
theorem BE:∀ {ps:List tN}{st:St}{a:AT}{q:KS},H3 E st ps a q→∃ st' r,rZ E st ps=some st'∧q st' r
 | [],st,a,q,h=>⟨st,a,rfl,h⟩
 | p::ps,st,a,q,h=>by
  obtain ⟨st1,r1,h1,h2⟩:=Ku h
  obtain ⟨st2,r2,h3,h4⟩:=BE h2
  exact ⟨st2,r2,by simp only [rZ,h1,Option.bind_some,h3],h4⟩
theorem qS:∀ (c:AC){st:St}{a:AT}{q:KX},cW G Ω E c st a q→∃ e st' r,run G Ω E c st=some (e,st')∧q e st' r
 | .sk,st,a,q,h=>⟨_,_,a,IV E st,by simpa only [cW] using h⟩
 | .rg pre ops kf kb,st,a,q,h=>by
  simp only [cW] at h
  obtain ⟨st1,r1,h1,h2⟩:=BE h
  obtain ⟨st2,r2,h3,h4⟩:=BC h2
  obtain ⟨st3,h5,rfl⟩:=Option.map_eq_some_iff.1 h3
  exact ⟨_,_,r2,by rw [IY,h1,Option.bind_some,h5];rfl,h4⟩
 | .dg pre mks ops kf kb,st,a,q,h=>by
  simp only [cW] at h
  obtain ⟨st1,r1,h1,h0,h2⟩:=BE h
  obtain ⟨st2,r2,h3,h4⟩:=BD h2
  obtain ⟨st3,h5,rfl⟩:=Option.map_eq_some_iff.1 h3
  exact ⟨_,_,r2,by rw [IZ,h1,Option.bind_some,if_pos h0,h5];rfl,h4⟩
 | .sq x y,st,a,q,h=>by
  simp only [cW] at h
  obtain ⟨e,st1,r1,h1,h2⟩:=qS x h
  cases e with
  | nrm=>
   obtain ⟨e,st2,r2,h3,h4⟩:=qS y h2
   exact ⟨e,st2,r2,by rw [Af,h1];exact h3,h4⟩
  | ex id=>exact ⟨_,_,r1,by rw [Af,h1];rfl,h2⟩
  | ret=>exact ⟨_,_,r1,by rw [Af,h1];rfl,h2⟩
 | .ite c x y,st,a,q,h=>by
  simp only [cW] at h
  split at h
  ·rename_i z hc
   obtain ⟨w,r,rfl,h⟩:=pG h
   cases z with
   | true=>
    obtain ⟨e,st1,r1,h1,h2⟩:=qS x h
    exact ⟨e,st1,r1,by rw [run_ite,hc];exact h1,h2⟩
   | false=>
    obtain ⟨e,st1,r1,h1,h2⟩:=qS y h
    exact ⟨e,st1,r1,by rw [run_ite,hc];exact h1,h2⟩
  ·exact h.elim
 | .bl id x,st,a,q,h=>by
  simp only [cW] at h
  obtain ⟨e,st1,r1,h1,h2⟩:=qS x h
  cases e with
  | nrm=>exact ⟨_,_,r1,by rw [w2,h1];rfl,h2⟩
  | ret=>exact ⟨_,_,r1,by rw [w2,h1];rfl,h2⟩
  | ex id'=>
   simp only at h2
   split at h2
   ·rename_i hi
    exact ⟨_,_,r1,by rw [w2,h1];simp only [Option.bind_some,inBlock,hi,if_true],h2⟩
   ·rename_i hi
    exact ⟨_,_,r1,by rw [w2,h1];simp only [Option.bind_some,inBlock,hi,if_false],h2⟩
 | .lp x,st,a,q,h=>by
  cases x with
  | kp kf kb x=>
   simp only [cW] at h
   obtain ⟨e,st1,r1,h1,h2⟩:=Ht h
   refine ⟨e,st1,r1,?_,h2⟩
   exact (Bx G Ω E ⟨kf,kb,x⟩ st).trans h1
  | _=>
   simp only [cW] at h
   obtain ⟨e,st1,r1,h1,h2⟩:=Ht h
   exact ⟨e,st1,r1,h1,h2⟩
 | .ex id,st,a,q,h=>⟨_,_,a,IW E st id,by simpa only [cW] using h⟩
 | .rt,st,a,q,h=>⟨_,_,a,IX E st,by simpa only [cW] using h⟩
 | .kp kf kb x,st,a,q,h=>by
  unfold cW at h
  split at h
  ·obtain ⟨b,h⟩:=dQ h
   split at h
   ·exact ⟨_,_,_,by rw [u0];exact h.1,h.2⟩
   ·exact h.elim
  ·obtain ⟨e,st1,r1,h1,h2⟩:=qS x h
   exact ⟨e,st1,r1,by rw [u0];exact h1,h2⟩
theorem zi{st:St}{x:AV}{a:AT}{q:AV→AT→Prop}(h:Al E st x a q):∃ y r,st.kM E.dp x=some y∧q y r:=by
 unfold Al at h
 split at h
 ·exact ⟨_,a,rfl,h⟩
 ·obtain ⟨t,es,r,h1,h2⟩:=eK h
  exact ⟨_,r,by simp only [St.kM,h1,Option.bind_some],h2⟩
 ·obtain ⟨h0,h⟩:=h
  obtain ⟨t,es,r,h1,h2⟩:=eK h
  exact ⟨_,r,by simp only [St.kM,if_pos h0,h1,Option.bind_some],h2⟩
 ·obtain ⟨t,es,r,h1,h2⟩:=eK h
  obtain ⟨es',r,h3,rfl,h5⟩:=iT h2
  exact ⟨_,r,by simp only [St.kM,h1,Option.bind_some,if_pos h3],h5⟩
 ·exact h.elim
 ·exact h.elim
 ·exact h.elim
 ·exact h.elim
 ·rename_i h1 h2 h3 h4 h5 h6 h7 h8
  refine ⟨x,a,?_,h⟩
  unfold St.kM
  split
  ·exact (h1 _ _ rfl).elim
  ·exact (h2 _ rfl).elim
  ·exact (h3 _ _ rfl).elim
  ·exact (h4 _ _ _ rfl).elim
  ·exact (h7 _ _ _ rfl).elim
  ·exact (h8 _ _ _ rfl).elim
  ·rfl
theorem EW{st:St} : ∀ {xs:List AV}{a:AT}{q:List AV→AT→Prop},H4 E st xs a q→∃ ys r,st.Bu E.dp xs=some ys∧q ys r
 | [],a,q,h=>⟨[],a,rfl,h⟩
 | x::xs,a,q,h=>by
  obtain ⟨y,r,h1,h2⟩:=zi h
  obtain ⟨ys,r2,h3,h4⟩:=EW h2
  exact ⟨_,r2,by simp only [St.Bu,h1,h3,Option.bind_some],h4⟩
theorem Kv{st:St}{z:RV}{a:AT}{q:AV→AT→Prop}(h:H5 E st z a q):∃ y r,st.ur E z=some y∧q y r:=by
 cases z with
 | t n=>exact zi h
 | c n sz=>
  simp only [H5] at h
  split at h
  ·rename_i k off hx
   obtain ⟨h0,h⟩:=h
   split at h
   ·rename_i cs hb
    split at h
    ·rename_i ds hp
     obtain ⟨ys,r,h1,h2⟩:=EW h
     exact ⟨_,r,by simp only [St.ur,hx,if_pos h0,hb,hp,h1,Option.bind_some],h2⟩
    ·rename_i y hy hp
     obtain ⟨z,r,h1,h2⟩:=zi h
     refine ⟨z,r,?_,h2⟩
     simp only [St.ur,hx,if_pos h0,hb,hp,Option.bind_some,h1]
    ·exact h.elim
   ·exact h.elim
  ·exact h.elim
theorem BF{st:St} : ∀ {zs:List RV}{a:AT}{q:List AV→Prop},Kt E st zs a q→∃ xs,st.oa E zs=some xs∧q xs
 | [],a,q,h=>⟨[],rfl,h⟩
 | z::zs,a,q,h=>by
  obtain ⟨y,r,h1,h2⟩:=Kv h
  obtain ⟨ys,h3,h4⟩:=BF h2
  exact ⟨_,by simp only [St.oa,h1,h3,Option.bind_some],h4⟩
theorem Kw{f:FuncId}{fn:bg}{ys:List AV}{hp:HP}{q:AV→HP→Prop}(hG:G f=some fn)(a:AT)(h:H6 G Ω E fn ys hp a q):∃ x hp',call G Ω E f ys hp=some (.ret x,hp')∧q x hp':=by
 obtain ⟨e,st,r,h1,h2⟩:=qS fn.code h
 cases e with
 | ex id=>exact h2.elim
 | nrm=>
  obtain ⟨xs,h3,h4⟩:=BF h2
  obtain ⟨h5,h6⟩:=bO h4
  exact ⟨_,_,by rw [yh,hG,Option.bind_some,h1];simp only [Option.bind_some,St.end_,St.result,h3,h5,if_true],h6⟩
 | ret=>
  obtain ⟨xs,h3,h4⟩:=BF h2
  obtain ⟨h5,h6⟩:=bO h4
  exact ⟨_,_,by rw [yh,hG,Option.bind_some,h1];simp only [Option.bind_some,St.end_,St.result,h3,h5,if_true],h6⟩
theorem P7{st:St}{rs:List RV}{n:Nat}{k:Key}{cs:List AV}(h1:rs=[.t n])(h2:an st.fr n= .p k 0)(h3:k.dp=E.dp)(h4:az st.bx k.d=some cs)(h5:cs.all su=true):st.end_ E rs=some (.new cs):=by
 subst h1
 have hr:st.result E [.t n]=none:=by simp [St.result,St.oa,St.ur,h2,St.kM,AV.b7,AV.pure]
 simp only [St.end_,hr,St.yg,h2,if_pos h3,h4,Option.bind_some,h5,if_true,Option.map_some]
theorem Jg{f:FuncId}{fn:bg}{ys:List AV}{hp:HP}{q:List AV→HP→Prop}(hG:G f=some fn)(a:AT)(h:EU G Ω E fn ys hp a q):∃ cs hp',call G Ω E f ys hp=some (.new cs,hp')∧q cs hp':=by
 obtain ⟨e,st,r,h1,h2⟩:=qS fn.code h
 have key:∀ {P:Prop},(match fn.res with
   | [.t n]=>match an st.fr n with
    | .p k 0=>k.dp=E.dp∧(match az st.bx k.d with
     | some cs=>(cs.all su)=true∧q cs st.hp
     | none=>False)
    | _=>False
   | _=>False)→(∀ cs,st.end_ E fn.res=some (.new cs)→q cs st.hp→P)→P:=by
  intro P h2 hP
  split at h2
  ·rename_i n hres
   split at h2
   ·rename_i k hk
    obtain ⟨h3,h4⟩:=h2
    split at h4
    ·rename_i cs hb
     exact hP cs (P7 hres hk h3 hb h4.1) h4.2
    ·exact h4.elim
   ·exact h2.elim
  ·exact h2.elim
 cases e with
 | ex id=>exact h2.elim
 | nrm=>exact key h2 fun cs h3 h4=>⟨cs,_,by rw [yh,hG,Option.bind_some,h1];simp only [Option.bind_some,h3],h4⟩
 | ret=>exact key h2 fun cs h3 h4=>⟨cs,_,by rw [yh,hG,Option.bind_some,h1];simp only [Option.bind_some,h3],h4⟩
theorem P8{R:Type}{f:FuncId}{fn:bg}{ys:List AV}{hp:HP}{Y:R→aZ×HP}{r:R}{T:Prop}(hG:G f=some fn)(a:AT)(h:T)(he:T=EU G Ω E fn ys hp a fun y h=>(aZ.new y,h)=Y r):call G Ω E f ys hp=some (Y r):=by
 obtain ⟨y,h',h1,h2⟩:=Jg hG a (he▸h)
 rw [←h2];exact h1
theorem WM{R:Type}{f:FuncId}{fn:bg}{ys:List AV}{hp:HP}{Y:R→aZ×HP}{r:R}{T:Prop}(hG:G f=some fn)(a:AT)(h:T)(he:T=H6 G Ω E fn ys hp a fun y h=>(aZ.ret y,h)=Y r):call G Ω E f ys hp=some (Y r):=by
 obtain ⟨y,h',h1,h2⟩:=Kw hG a (he▸h)
 rw [←h2];exact h1
theorem runT{R:Type}{c:AC}{st:St}{Y:R→aK×St}{r:R}{T:Prop}(a:AT)(h:T)(he:T=cW G Ω E c st a fun e s _=>(e,s)=Y r):run G Ω E c st=some (Y r):=by
 obtain ⟨e,s,_,h1,h2⟩:=qS c (he▸h)
 rw [←h2];exact h1
theorem WN{R:Type}{kf kb:List Nat}{gs:List cL}{st:St}{Y:R→St}{r:R}{T:Prop}(a:AT)(h:T)(he:T=xi G Ω E kf kb st gs a fun s _=>s=Y r):eB G Ω E kf kb gs st=some (Y r):=by
 obtain ⟨s,_,h1,h2⟩:=BC (he▸h)
 rw [←h2];exact h1
theorem WO{R:Type}{kf kb:List Nat}{gs:List bI}{st:St}{Y:R→St}{r:R}{T:Prop}(a:AT)(h:T)(he:T=xj G Ω E kf kb st gs a fun s _=>s=Y r):BB G Ω E kf kb gs st=some (Y r):=by
 obtain ⟨s,_,h1,h2⟩:=BD (he▸h)
 rw [←h2];exact h1
def Mo(kf kb:List Nat):aK→St→St⊕(aK×St)
 | .nrm,s=>.inl (s.bw kf kb)
 | e,s=>.inr (e,s)
theorem ai{a b:Prop}(x:a)(y:b):a∧b:=⟨x,y⟩
theorem tt:true=true:=rfl
theorem gt:(true==true)=true:=rfl
theorem gf:(false==true)=false:=rfl
theorem ht:(true==false)=false:=rfl
theorem hf:(false==false)=true:=rfl
abbrev W(w:List AV)(n:Nat):AV:=w.getD n .u
abbrev bt(r:AT):AT:=.co (.b true) r
abbrev bf(r:AT):AT:=.co (.b false) r
abbrev ao(x:YS)(r:AT):AT:=.co x r
theorem ff:false=false:=rfl
end
end Go.Proofs.YtogbakbmphadfaaGreatDoor.A
