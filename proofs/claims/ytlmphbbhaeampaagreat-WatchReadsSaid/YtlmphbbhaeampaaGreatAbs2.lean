/- The abstract run: what the operations, the commands and the calls of the program do with abstract values. A run that this text does not follow answers none. -/
import Derived.Test.YtlmphbbhaeampaaGreatAbs1
set_option linter.all false
namespace Go.Proofs.YtlmphbbhaeampaaGreat.A
open Go
abbrev HP:=Key→Option (List AV)
structure St where
 fr:List (Nat×AV)
 bx:List (Nat×List AV)
 hp:HP
structure Env where
 dp:Nat
 ro:Bool
def az:List (Nat×AV)→Nat→AV
 | [],_=>.u
 | (k,x)::r,d=>if k=d then x else az r d
def aZ:List (Nat×List AV)→Nat→Option (List AV)
 | [],_=>none
 | (k,x)::r,d=>if k=d then some x else aZ r d
def mS:List (Nat×List AV)→Nat→List AV→List (Nat×List AV)
 | [],_,_=>[]
 | (k,x)::r,d,y=>if k=d then (k,y)::r else (k,x)::mS r d y
def aq(hp:HP)(k:Key)(cs:List AV):HP:=fun k'=>if k'=k then some cs else hp k'
def St.cS(st:St)(d:Nat)(x:AV):St:={st with fr:=(d,x)::st.fr}
def St.box(dp:Nat)(st:St)(k:Key):Option (List AV):=if k.dp=dp then aZ st.bx k.d else st.hp k
def St.aW(dp:Nat)(st:St)(k:Key)(cs:List AV):St:=
 if k.dp=dp then {st with bx:=mS st.bx k.d cs} else {st with hp:=aq st.hp k cs}
def St.bC(st:St)(pl:Pl):St:={st with fr:=st.fr.map fun x=>(x.1,if x.2.fG pl=true then .u else x.2)}
def pB:AV→Option Bool
 | .b x=>some x
 | _=>none
def EK:AV→Bool
 | .r _=>true
 | .v _ _ _=>true
 | .q _ _ _ _=>true
 | .w _ _ _=>true
 | .bp _ _ _=>true
 | .ag _ _=>true
 | _=>false
def St.rowAt(dp:Nat)(st:St):Pl→Option (TypeId×List AV)
 | .s d=>match az st.fr d with
  | .o t es=>some (t,es)
  | _=>none
 | .c k off=>match st.box dp k with
  | some cs=>match cs[off]? with
   | some (.o t es)=>some (t,es)
   | _=>none
  | none=>none
def St.putAt(dp:Nat)(st:St)(x:AV):Pl→Option St
 | .s d=>some (st.cS d x)
 | .c k off=>match st.box dp k with
  | some cs=>some (st.aW dp k (cs.set off x))
  | none=>none
def Pl.iI(E:Env):Pl→Bool
 | .s _=>true
 | .c k _=>decide (k.dp=E.dp)||!E.ro
inductive bz where
 | t (n:Nat)
 | c (x:AV)
def St.ev(st:St):bz→AV
 | .t n=>az st.fr n
 | .c x=>x
def St.elems(dp:Nat)(st:St):AV→Option (TypeId×List AV)
 | .l t es=>some (t,es)
 | .n=>some (0,[])
 | .o t es=>some (t,es)
 | .r pl=>st.rowAt dp pl
 | .v pl lo len=>match st.rowAt dp pl with
  | some (t,es)=>if lo+len≤es.length then some (t,(es.drop lo).take len) else none
  | none=>none
 | _=>none
def pick(n:Option Nat)(off:Nat)(cs:List AV):Option AV:=
 match n with
 | none=>cs[off]?
 | some m=>if off+m≤cs.length then some (.a ((cs.drop off).take m)) else none
def putCells(cs:List AV)(off:Nat)(ys:List AV):List AV:=cs.take off++ys++cs.drop (off+ys.length)
def GQ(x:AV):List AV→AV
 | [y]=>y
 | _=>x
def BV(e:AV)(off:Nat)(ys:List AV):AV:=
 match e with
 | .a cs=>.a (putCells cs off ys)
 | x=>GQ x ys
def sU(op:BinOp)(k:IntKind)(a b:Int):Option AV:=
 match op with
 | .add=>some (.i k (k.wrap (a+b)))
 | .sub=>some (.i k (k.wrap (a - b)))
 | .mul=>some (.i k (k.wrap (a*b)))
 | .quo=>if b=0 then none else some (.i k (k.wrap (a.tdiv b)))
 | .rem=>if b=0 then none else some (.i k (a.tmod b))
 | .eql=>some (.b (a==b))
 | .neq=>some (.b (a !=b))
 | .lss=>some (.b (decide (a<b)))
 | .leq=>some (.b (decide (a≤b)))
 | .gtr=>some (.b (decide (b<a)))
 | .geq=>some (.b (decide (b≤a)))
 | .or=>some (.i k (if b>a then b else a))
 | _=>none
def qb(op:BinOp)(bl:Bool)(x y:AV):Option AV:=
 match x,y with
 | .i k a,.i k' b=>if k=k' then sU op k a b else none
 | .b a,.b b=>if bl then match op with
  | .eql=>some (.b (a==b))
  | .neq=>some (.b (!(a==b)))
  | _=>none
  else none
 | .s a,.s b=>match op with
  | .add=>if a.length+b.length≤4611686018427387904 then some (.s (a++b)) else none
  | .eql=>some (.b (a==b))
  | .neq=>some (.b (!(a==b)))
  | _=>none
 | _,_=>none
inductive pC where
 | mv (x:bz)
 | as (x:bz)
 | pk (c x y:bz)
 | bx (x:bz)
 | al (zs:List AV)
 | ld (n:Option Nat) (x:bz)
 | st (n:Nat) (x y:bz)
 | fa (off:Nat) (x:bz)
 | fd (n:Option Nat) (off:Nat) (x:bz)
 | ia (sz:Nat) (arr:Option Nat) (x i:bz)
 | bo (op:BinOp) (bl:Bool) (x y:bz)
 | no (x:bz)
 | cv (k:IntKind) (x:bz)
 | ae (ks:List Nat) (ng:Bool) (x y:bz)
 | bs (t sz:Nat) (es:List bz)
 | bd (zs:List AV) (fs:List (Nat×Nat×bz))
 | ms (t sz:Nat) (by_:Nat) (x:AV) (n:bz)
 | sl (t sz:Nat) (x:bz) (lo hi:Option bz)
 | ex (x:bz) (i:Nat)
 | mf (f:FuncId) (B:List bz)
 | ca (m:Nat) (f:FuncId) (args:List bz)
 | cf (m:Nat) (x:bz) (args:List bz)
 | c2 (f:FuncId) (args:List bz)
 | d2 (x:bz) (args:List bz)
 | c3 (f:FuncId) (args:List bz)
 | d3 (x:bz) (args:List bz)
 | cn (f:FuncId) (args:List bz)
 | cr (t:Nat) (f:FuncId) (args:List bz)
 | ln (str:Bool) (x:bz)
 | ap (t sz:Nat) (by_:Nat) (x y:bz)
 | nc (x:bz)
 | ck (f:FuncId) (args:List bz)
 | bg (zs:List AV) (fs:List (Nat×Nat×bz))
 | bxg (x:bz)
structure dx where
 d:Option Nat
 o:pC
 g:Option (Nat×Bool):=none
 fz:Bool:=false
structure bR where
 p:dx
 lt:Bool
 vw:List Nat
 vb:List Nat
 vh:Bool
 cs:List Nat
 nk:List Nat
 nb:List Nat
inductive bA where
 | ret (x:AV)
 | new (cs:List AV)
 | row (t:TypeId) (es:List AV)
 | sg (i:Nat) (cs:List AV) (t:TypeId) (n sz:Nat) (bs:List AV)
inductive bh where
 | nrm
 | ex (id:Nat)
 | ret
inductive wy where
 | own (d:Nat) (t:TypeId)
 | fz (d:Nat)
 | ownC (d off:Nat) (t:TypeId)
 | fzC (d off:Nat)
 | fzB (d:Nat) (agg:Bool)
 | sg (d off nd sz:Nat)
 | unp (d off:Nat)
inductive AC where
 | sk
 | rg (pre:List wy) (ops:List dx) (kf kb:List Nat)
 | dg (pre:List wy) (mks:List Nat) (ops:List bR) (kf kb:List Nat)
 | sq (x y:AC)
 | ite (c:bz) (x y:AC)
 | bl (id:Nat) (x:AC)
 | lp (x:AC)
 | ex (id:Nat)
 | rt
 | kp (kf kb:List Nat) (x:AC)
 | bad
 | ru (g:bz) (x:Nat) (y b:AC)
inductive RV where
 | t (n:Nat)
 | c (n:Nat) (sz:Option Nat)
 | r (n:Nat)
structure bL where
 code:AC
 res:List RV
abbrev qG:=FuncId→Option bL
abbrev dK:=FuncId→List AV→Option AV
abbrev Rec:=Env→FuncId→List AV→HP→Option (bA×HP)
def chunks(sz:Nat):Nat→List AV→List AV
 | 0,_=>[]
 | n+1,cs=>(if sz=1 then cs.headD .u else .a (cs.take sz))::chunks sz n (cs.drop sz)
def uV(d:Nat):TypeId:=if 1000000≤d then (d - 1000000) / 1000 else 0
def St.qH(dp:Nat)(st:St)(k:Key)(o n sz:Nat):Option (AV×List TypeId):=
 (st.box dp k).bind fun cs=>if (decide (1000000≤k.d)&&AV.bJ cs&&decide (0<sz)&&decide (o+n*sz≤cs.length))=true then some (.l 0 (chunks sz n (cs.drop o)),[(k.d - 1000000) / 1000]) else none
def St.GR(dp:Nat)(st:St)(c:AV):Option (AV×List TypeId):=
 match c with
 | .sp k o n sz=>st.qH dp k o n sz
 | c=>if c.pure then some (c,[]) else none
def St.tE(dp:Nat)(st:St):List AV→Option (List AV×List TypeId)
 | []=>some ([],[])
 | c::cs=>(st.GR dp c).bind fun y=>(st.tE dp cs).bind fun ys=>some (y.1::ys.1,y.2++ys.2)
def St.jE(dp:Nat)(st:St)(x:AV):Option (AV×List TypeId):=
 match x with
 | .o t es=>some (.l t es,[t])
 | .r pl=>(st.rowAt dp pl).bind fun r=>some (.l r.1 r.2,[r.1])
 | .v pl lo len=>(st.rowAt dp pl).bind fun r=>if lo+len≤r.2.length then some (.l r.1 ((r.2.drop lo).take len),[r.1]) else none
 | .w _ t x=>some (x,[t])
 | .sp k o n sz=>st.qH dp k o n sz
 | .a cs=>if AV.bJ cs=true then some (.a cs,[]) else (st.tE dp cs).bind fun r=>some (.a r.1,r.2)
 | x=>if x.pure then some (x,[]) else none
def St.eX(dp:Nat)(st:St):List AV→Option (List AV×List TypeId)
 | []=>some ([],[])
 | x::xs=>(st.jE dp x).bind fun y=>(st.eX dp xs).bind fun ys=>some (y.1::ys.1,y.2++ys.2)
def dj(R:Rec)(Ω:dK)(E:Env)(st:St)(m:Nat)(f:FuncId)(args:List AV):Option (AV×St):=
 match m with
 | 0=>(st.eX E.dp args).bind fun ys=>(R ⟨0,false⟩ f ys.1 (fun _=>none)).bind fun r=>match r.1 with
  | .ret x=>if x.pure&&(ys.2.isEmpty||x.off ys.2) then some (x,st) else none
  | _=>none
 | 1=>(st.eX E.dp args).bind fun ys=>(Ω f ys.1).bind fun x=>if x.pure&&(ys.2.isEmpty||x.off ys.2) then some (x,st) else none
 | _=>none
def lL:AV→Bool
 | .r (.c _ _)=>true
 | .v (.c _ _) _ _=>true
 | .q (.c _ _) _ _ _=>true
 | _=>false
def fi(dp:Nat)(hp:HP):List (Nat×List AV)→List (Nat×List AV)
 | []=>[]
 | (d,_)::r=>match hp ⟨dp,d⟩ with
  | some cs=>(d,cs)::fi dp hp r
  | none=>fi dp hp r
def St.back(dp:Nat)(st:St)(hp:HP):St:=
 ⟨st.fr.map fun x=>(x.1,if lL x.2=true then .u else x.2),fi dp hp st.bx,fun k=>if k.dp<dp then hp k else none⟩
def AV.jJ:AV→Bool
 | .o _ _=>true
 | .r _=>true
 | .v _ _ _=>true
 | x=>x.pure
def dz(R:Rec)(Ω:dK)(E:Env)(st:St)(f:FuncId)(args:List AV):Option (AV×St):=
 if args.all AV.jJ=true then dj R Ω E st 0 f args
 else if (!E.ro&&args.all AV.copy&&st.bx.all fun y=>AV.fJ E.dp y.2)=true then
  (R ⟨E.dp+1,false⟩ f args (fun k=>st.box E.dp k)).bind fun r=>match r.1 with
   | .ret x=>some (x,st.back E.dp r.2)
   | _=>none
 else none
def kd(R:Rec)(E:Env)(st:St)(f:FuncId)(args:List AV):Option (AV×St):=
 if (args.all AV.copy&&st.bx.all fun y=>AV.fJ E.dp y.2)=true then
  (R ⟨E.dp+1,true⟩ f args (fun k=>st.box E.dp k)).bind fun r=>match r.1 with
   | .ret x=>if x.pure=true then some (x,st) else none
   | _=>none
 else none
def jK(bx:List (Nat×List AV))(d:Nat):Bool:=(aZ bx d).isNone&&decide (d<1000000)
def su(dp:Nat)(st:St)(d:Nat):Bool:=jK st.bx d&&st.fr.all (fun y=>y.2.cU ⟨dp,d⟩)&&st.bx.all (fun y=>AV.iE ⟨dp,d⟩ y.2)
def AY(R:Rec)(E:Env)(st:St)(d:Nat)(f:FuncId)(args:List AV):Option (AV×St):=
 if (!E.ro&&args.all AV.copy&&st.bx.all fun y=>AV.fJ E.dp y.2)=true then
  (R ⟨E.dp+1,false⟩ f args (fun k=>st.box E.dp k)).bind fun r=>match r.1 with
   | .new cs=>if su E.dp (st.back E.dp r.2) d=true then some (.p ⟨E.dp,d⟩ 0,{(st.back E.dp r.2) with bx:=(d,cs)::(st.back E.dp r.2).bx}) else none
   | _=>none
 else none
def s9:AV→Bool
 | .o _ _=>true
 | x=>x.pure
def AZ(R:Rec)(E:Env)(st:St)(d:Nat)(f:FuncId)(args:List AV):Option (AV×St):=
 if AV.bJ args=true then (R ⟨E.dp+1,false⟩ f args (fun _=>none)).bind fun r=>match r.1 with
  | .new cs=>if (cs.all s9&&su E.dp st d)=true then some (.p ⟨E.dp,d⟩ 0,{st with bx:=(d,cs)::st.bx}) else none
  | _=>none
 else none
def Iv(Ω:dK)(st:St)(d:Nat)(t:TypeId)(f:FuncId)(args:List AV):Option (AV×St):=
 if AV.bJ args=true then (Ω f args).bind fun x=>match x with
  | .o t' []=>if t'=t then some (.o t [],st.bC (.s d)) else none
  | _=>none
 else none
mutual
def AV.qc(t:TypeId):AV→Bool
 | .a cs=>AV.wz t cs
 | .tp cs=>AV.wz t cs
 | .f _ cs=>AV.wz t cs
 | .ifc _ x=>AV.qc t x
 | .l t' es=>es.isEmpty||(t'==t&&AV.wz t es)
 | .e _ _=>false
 | _=>true
def AV.wz(t:TypeId):List AV→Bool
 | []=>true
 | x::xs=>AV.qc t x&&AV.wz t xs
end
def UU(g:Nat)(t:TypeId):AV→AV
 | .i k n=>.i k n
 | .b x=>.b x
 | x=>.w g t x
def rf:AV→Option Nat
 | .i _ n=>if 0≤n then some n.toNat else none
 | _=>none
def pd(st:St)(x:Option bz)(dflt:Nat):Option Nat:=
 match x with
 | none=>some dflt
 | some y=>rf (st.ev y)
def consume(E:Env)(st:St)(t:TypeId):bz→Option (List AV×St)
 | .c .n=>some ([],st)
 | .c _=>none
 | .t m=>match az st.fr m with
  | .n=>some ([],st)
  | .o t' es=>if t'=t then some (es,st.cS m .u) else none
  | .r pl=>if pl.iI E then (st.rowAt E.dp pl).bind fun r=>if r.1=t then (st.putAt E.dp .u pl).bind fun st'=>some (r.2,st') else none else none
  | .v pl lo len=>if pl.iI E&&lo==0 then
    (st.rowAt E.dp pl).bind fun r=>if len≤r.2.length∧r.1=t then (st.putAt E.dp .u pl).bind fun st'=>some (r.2.take len,st') else none
   else none
  | _=>none
def EL(dp:Nat)(st:St)(t d:Nat):Bool:=((aZ st.bx d).isNone&&decide (1000000≤d)&&decide ((d - 1000000) / 1000=t))&&st.fr.all (fun y=>y.2.cU ⟨dp,d⟩)&&st.bx.all (fun y=>AV.iE ⟨dp,d⟩ y.2)
def elemAt(sz:Nat)(st:St)(e:Option AV)(x:AV→AV):Option (AV×St):=
 e.bind fun e=>if e.nc=sz then some (x e,st) else none
def bytesOf:List AV→Option (List UInt8)
 | []=>some []
 | .i .u8 n::r=>if 0≤n∧n<256 then (bytesOf r).map (UInt8.ofNat n.toNat::·) else none
 | _=>none
def jA:List Nat→List AV→List AV→Option Bool
 | [],[],[]=>some true
 | 0::ks,.b m::xs,.b n::ys=>(jA ks xs ys).map fun r=>(m==n)&&r
 | 1::ks,.i k m::xs,.i k' n::ys=>if k=k' then (jA ks xs ys).map fun r=>(m==n)&&r else none
 | 2::ks,.s m::xs,.s n::ys=>(jA ks xs ys).map fun r=>(m==n)&&r
 | _,_,_=>none
def A0:AV→Bool
 | .u=>true
 | _=>false
def rowOf(st:St):bz→Option Nat
 | .t m=>match az st.fr m with
  | .o _ _=>some m
  | _=>none
 | .c _=>none
def PD(st:St)(n:Nat)(f:Nat×Nat×bz):Bool:=
 (match rowOf st f.2.2 with
  | some _=>f.2.1==1
  | none=>(st.ev f.2.2).copy&&(st.ev f.2.2).nc==f.2.1&&(st.ev f.2.2).cl.all AV.one)&&decide (f.1+f.2.1≤n)
def wA(st:St)(acc:List AV×List (Nat×Nat))(f:Nat×Nat×bz):List AV×List (Nat×Nat):=
 match rowOf st f.2.2 with
 | some m=>(putCells acc.1 f.1 [.u],(f.1,m)::acc.2.filter fun q=>q.1 !=f.1)
 | none=>(putCells acc.1 f.1 (st.ev f.2.2).cl,acc.2.filter fun q=>!(decide (f.1≤q.1)&&decide (q.1<f.1+f.2.1)))
def zN(d:Nat):St→List (Nat×Nat)→Option St
 | st,[]=>some st
 | st,(off,m)::rs=>match az st.fr m with
  | .o t es=>(aZ st.bx d).bind fun cs=>match cs[off]? with
   | some .u=>zN d {(st.cS m .u) with bx:=mS st.bx d (cs.set off (.o t es))} rs
   | _=>none
  | _=>none
def execOp(R:Rec)(Ω:dK)(E:Env)(st:St)(d:Option Nat):pC→Option (AV×St)
 | .mv x=>match st.ev x with
  | .o _ _=>match x with
   | .t n=>some (.r (.s n),st)
   | .c _=>none
  | y=>some (y,st)
 | .as x=>match x with
  | .c y=>if y.pure then some (y,st) else none
  | .t n=>match az st.fr n with
   | .o t es=>d.bind fun d=>some (.o t es,(st.cS n .u).bC (.s d))
   | .v pl lo len=>d.bind fun d=>
    if pl= .s d&&lo==0 then (st.rowAt E.dp pl).bind fun r=>if len≤r.2.length then some (.o r.1 (r.2.take len),st.bC (.s d)) else none
    else some (.v pl lo len,st)
   | y=>if y.copy||EK y then some (y,st) else none
 | .pk c x y=>(pB (st.ev c)).bind fun z=>
  if z=true then (if (st.ev x).copy then some (st.ev x,st) else none) else (if (st.ev y).copy then some (st.ev y,st) else none)
 | .bx x=>d.bind fun d=>
  let cs:=(st.ev x).cl
  if (st.ev x).copy&&cs.all AV.one&&(st.ev x).deep E.dp&&jK st.bx d&&st.fr.all (fun y=>y.2.cU ⟨E.dp,d⟩)&&st.bx.all (fun y=>AV.iE ⟨E.dp,d⟩ y.2)
  then some (.p ⟨E.dp,d⟩ 0,{st with bx:=(d,cs)::st.bx}) else none
 | .al zs=>d.bind fun d=>
  if jK st.bx d&&st.fr.all (fun y=>y.2.cU ⟨E.dp,d⟩)&&st.bx.all (fun y=>AV.iE ⟨E.dp,d⟩ y.2)
  then some (.p ⟨E.dp,d⟩ 0,{st with bx:=(d,zs)::st.bx}) else none
 | .ld n x=>match st.ev x with
  | .p k off=>(st.box E.dp k).bind fun cs=>(pick n off cs).bind fun y=>match y with
   | .o _ _=>some (.r (.c k off),st)
   | y=>if y.copy then some (y,st) else none
  | .e x off=>(pick n off x.cl).bind fun y=>some (y,st)
  | .q pl i sz off=>(st.rowAt E.dp pl).bind fun r=>(r.2[i]?).bind fun e=>if e.nc=sz then (pick n off e.cl).bind fun y=>some (y,st) else none
  | _=>none
 | .st n x y=>match st.ev x with
  | .p k off=>
   if (Pl.c k off).iI E then
    (st.box E.dp k).bind fun cs=>match st.ev y with
    | .o t es=>match y with
     | .t m=>if n==1&&decide (off<cs.length) then some (.u,(((st.cS m .u).bC (.c k off)).aW E.dp k (cs.set off (.o t es)))) else none
     | _=>none
    | .v pl lo len=>
     if pl= .c k off&&lo==0&&n==1 then (st.rowAt E.dp pl).bind fun r=>if len≤r.2.length then some (.u,(st.bC (.c k off)).aW E.dp k (cs.set off (.o r.1 (r.2.take len)))) else none
     else none
    | y=>if y.copy&&y.nc==n&&y.cl.all AV.one&&y.deep k.dp&&decide (off+n≤cs.length) then some (.u,st.aW E.dp k (putCells cs off y.cl)) else none
   else none
  | .q pl i sz off=>
   if pl.iI E then
    (st.rowAt E.dp pl).bind fun r=>(r.2[i]?).bind fun e=>
     if e.nc==sz&&(st.ev y).pure&&(st.ev y).nc==n&&(st.ev y).cl.all AV.one&&decide (off+n≤sz) then
      (st.putAt E.dp (.o r.1 (r.2.set i (BV e off (st.ev y).cl))) pl).bind fun st'=>some (.u,st')
     else none
   else none
  | _=>none
 | .fa off x=>match st.ev x with
  | .p k o=>some (.p k (o+off),st)
  | .e y o=>some (.e y (o+off),st)
  | .q pl i sz o=>(st.rowAt E.dp pl).bind fun r=>if i<r.2.length then some (.q pl i sz (o+off),st) else none
  | _=>none
 | .fd n off x=>match st.ev x with
  | .a cs=>(pick n off cs).bind fun y=>some (y,st)
  | _=>none
 | .ia sz arr x i=>(rf (st.ev i)).bind fun j=>match arr with
  | some len=>if j<len then
    match st.ev x with
    | .p k o=>some (.p k (o+j*sz),st)
    | .e y o=>some (.e y (o+j*sz),st)
    | _=>none
   else none
  | none=>match st.ev x with
   | .l _ es=>elemAt sz st es[j]? fun e=>.e e 0
   | .o _ es=>match x with
    | .t m=>elemAt sz st es[j]? fun _=>.q (.s m) j sz 0
    | _=>none
   | .r pl=>(st.rowAt E.dp pl).bind fun r=>elemAt sz st r.2[j]? fun _=>.q pl j sz 0
   | .v pl lo len=>if j<len then (st.rowAt E.dp pl).bind fun r=>if lo+len≤r.2.length then elemAt sz st r.2[lo+j]? fun _=>.q pl (lo+j) sz 0 else none else none
   | .sp k o n s=>if j<n∧s=sz then some (.p k (o+j*sz),st) else none
   | _=>none
 | .bo op bl x y=>(qb op bl (st.ev x) (st.ev y)).bind fun r=>some (r,st)
 | .no x=>(pB (st.ev x)).bind fun y=>some (.b (!y),st)
 | .cv k x=>match st.ev x with
  | .i _ n=>some (.i k (k.wrap n),st)
  | _=>none
 | .ae ks ng x y=>match st.ev x,st.ev y with
  | .a xs,.a ys=>(jA ks xs ys).bind fun r=>some (.b (if ng then !r else r),st)
  | _,_=>none
 | .bs t sz es=>d.bind fun d=>
  let vs:=es.map st.ev
  if vs.all (fun y=>y.pure&&y.cl.all AV.one&&y.nc==sz) then some (.o t vs,st.bC (.s d)) else none
 | .bd zs fs=>
  if fs.all (fun f=>(st.ev f.2.2).copy&&(st.ev f.2.2).nc==f.2.1&&(st.ev f.2.2).cl.all AV.one&&decide (f.1+f.2.1≤zs.length)) then
   some (.a (fs.foldl (fun cs f=>putCells cs f.1 (st.ev f.2.2).cl) zs),st) else none
 | .ms t _ by_ x n=>d.bind fun d=>(rf (st.ev n)).bind fun n=>
  if n*by_≤140737488355328&&decide (n≤maxLen) then some (.o t (List.replicate n x),st.bC (.s d)) else none
 | .sl t sz x lo hi=>match st.ev x with
  | .s l=>(pd st lo 0).bind fun a=>(pd st hi l.length).bind fun b=>if t==0&&decide (a≤b)&&decide (b≤l.length) then some (.s ((l.take b).drop a),st) else none
  | .l t' es=>(pd st lo 0).bind fun a=>(pd st hi es.length).bind fun b=>if t !=0&&es.all (fun e=>e.nc==sz)&&decide (a≤b)&&decide (b≤es.length) then some (.l t' ((es.take b).drop a),st) else none
  | .r pl=>(st.rowAt E.dp pl).bind fun r=>(pd st lo 0).bind fun a=>(pd st hi r.2.length).bind fun b=>
   if t !=0&&r.1==t&&decide (a≤b)&&decide (b≤r.2.length) then some (.v pl a (b - a),st) else none
  | _=>none
 | .ex x i=>match st.ev x with
  | .tp vs=>(vs[i]?).bind fun y=>some (y,st)
  | _=>none
 | .mf f B=>if AV.nj (B.map st.ev) then some (.f f (B.map st.ev),st) else none
 | .ca m f args=>dj R Ω E st m f (args.map st.ev)
 | .cf m x args=>match st.ev x with
  | .f f B=>if f<1000000 then dj R Ω E st m f (args.map st.ev++B) else none
  | _=>none
 | .c2 f args=>dz R Ω E st f (args.map st.ev)
 | .d2 x args=>match st.ev x with
  | .f f B=>if f<1000000 then dz R Ω E st f (args.map st.ev++B) else dz R Ω E st (f - 1000000) (B++args.map st.ev)
  | _=>none
 | .c3 f args=>kd R E st f (args.map st.ev)
 | .d3 x args=>match st.ev x with
  | .f f B=>if f<1000000 then kd R E st f (args.map st.ev++B) else none
  | _=>none
 | .cn f args=>d.bind fun d=>AY R E st d f (args.map st.ev)
 | .cr t f args=>d.bind fun d=>Iv Ω st d t f (args.map st.ev)
 | .ln str x=>match st.ev x with
  | .s l=>if str then some (.i .i64 l.length,st) else none
  | .sp _ _ n _=>if str then none else some (.i .i64 n,st)
  | y=>if str then none else (st.elems E.dp y).bind fun r=>some (.i .i64 r.2.length,st)
 | .ap t sz by_ x y=>d.bind fun d=>(st.elems E.dp (st.ev y)).bind fun ys=>(consume E st t x).bind fun r=>
  if ys.2.all (fun e=>e.nc==sz)&&decide ((r.1.length+ys.2.length)*by_≤140737488355328)&&decide (r.1.length+ys.2.length≤maxLen)
  then some (.o t (r.1++ys.2),r.2.bC (.s d)) else none
 | .nc x=>match st.ev x with
  | .p k o=>some (.p k o,st)
  | .e y o=>some (.e y o,st)
  | .q _ _ _ _=>none
  | .f g B=>some (.f g B,st)
  | _=>none
 | .ck f args=>d.bind fun d=>AZ R E st d f (args.map st.ev)
 | .bg zs fs=>if fs.all (PD st zs.length)=true then some (.ag (fs.foldl (wA st) (zs,[])).1 (fs.foldl (wA st) (zs,[])).2,st) else none
 | .bxg x=>d.bind fun d=>match st.ev x with
  | .ag cs rs=>if (cs.all (fun c=>c.copy||A0 c)&&AV.fJ E.dp cs&&su E.dp st d)=true then (zN d {st with bx:=(d,cs)::st.bx} rs).map fun st'=>(.p ⟨E.dp,d⟩ 0,st') else none
  | _=>none
def put(st:St)(d:Option Nat)(x:AV):St:=
 match d with
 | some d=>st.cS d x
 | none=>st
def xm:AV→Bool→Option Bool
 | .b x,want=>some (x==want)
 | .sk,_=>some false
 | _,_=>none
def fg:Bool→AV→AV
 | true,.o t es=>.l t es
 | _,x=>x
def ix(R:Rec)(Ω:dK)(E:Env)(st:St)(g:dx):Option St:=
 match g.g with
 | none=>(execOp R Ω E st g.d g.o).bind fun r=>some (put r.2 g.d (fg g.fz r.1))
 | some (j,want)=>(xm (az st.fr j) want).bind fun y=>
  if y=true then (execOp R Ω E st g.d g.o).bind fun r=>some (put r.2 g.d (fg g.fz r.1)) else some (put st g.d .sk)
def iL(R:Rec)(Ω:dK)(E:Env):St→List dx→Option St
 | st,[]=>some st
 | st,g::gs=>(ix R Ω E st g).bind fun st'=>iL R Ω E st' gs
def eD(fr:List (Nat×AV))(ks:List Nat):List (Nat×AV):=ks.map fun k=>(k,az fr k)
def dF(bx:List (Nat×List AV)):List Nat→List (Nat×List AV)
 | []=>[]
 | k::ks=>match aZ bx k with
  | some cs=>(k,cs)::dF bx ks
  | none=>dF bx ks
def St.bB(st:St)(kf kb:List Nat):St:={st with fr:=eD st.fr kf,bx:=dF st.bx kb}
def view(p:bR)(s:St):St:=⟨eD s.fr p.vw,dF s.bx p.vb,if p.vh=true then s.hp else fun _=>none⟩
def yg:AV→Bool
 | .o _ _=>true
 | _=>false
def me(v:St):pC→Bool
 | .as x=>(v.ev x).copy
 | .mv x=>!A0 (v.ev x)
 | .ap _ _ _ x _=>match v.ev x with
  | .o _ _=>true
  | .n=>true
  | .r (.c _ _)=>true
  | _=>false
 | .st _ x y=>((v.ev y).copy||yg (v.ev y))&&match v.ev x with
  | .p _ _=>true
  | _=>false
 | _=>true
def Iw:AV→Bool
 | .r (.c _ _)=>true
 | _=>false
def gj(dp:Nat)(p:bR)(v:St):Bool:=
 match p.p.o with
 | .st _ x y=>!yg (v.ev y)||(match v.ev x with
  | .p k _=>decide (k.dp=dp)&&p.vb==[k.d]&&(match y with
   | .t m=>p.cs==[m]
   | .c _=>false)
  | _=>false)
 | .ap _ _ _ x _=>Iw (v.ev x)==(p.cs.length==2)
 | _=>true
def jF(k:Key):AV→Bool
 | .r (.c k' _)=>decide (k'=k)
 | .v (.c k' _) _ _=>decide (k'=k)
 | .q (.c k' _) _ _ _=>decide (k'=k)
 | _=>false
def gZ(dp:Nat)(mk:List Nat)(x:AV):Bool:=mk.all fun h=>x.cU ⟨dp,h⟩&&!x.fG (.s h)
def okB(dp:Nat)(nb:List Nat)(x:AV):Bool:=(nb.all fun h=>!jF ⟨dp,h⟩ x)&&(!nb.contains 1000000||!lL x)
structure cq where
 fr:List (Nat×AV)
 nb:List (Nat×List AV)
 wb:List (Nat×List AV)
 hp:Option HP
def xx(bx:List (Nat×List AV)):List (Nat×List AV)→List (Nat×List AV)
 | []=>bx
 | (b,cs)::r=>mS (xx bx r) b cs
def cq.app(q:cq)(s:St):St:=⟨q.fr++s.fr,q.nb++xx s.bx q.wb,q.hp.getD s.hp⟩
def ke(d:Option Nat)(x:AV):List (Nat×AV):=
 match d with
 | some d=>[(d,x)]
 | none=>[]
def effect(p:bR)(r:AV×St):cq:=
 match p.p.o with
 | .al zs=>match p.p.d with
  | some d=>⟨[(d,r.1)],[(d,zs)],[],none⟩
  | none=>⟨[],[],[],none⟩
 | .ck _ _=>match p.p.d with
  | some d=>⟨[(d,r.1)],(match aZ r.2.bx d with
   | some cs=>[(d,cs)]
   | none=>[]),[],none⟩
  | none=>⟨[],[],[],none⟩
 | .st _ _ _=>⟨p.cs.map (fun m=>(m,.u)),[],dF r.2.bx p.vb,if p.vh=true then some r.2.hp else none⟩
 | .ap _ _ _ _ _=>⟨ke p.p.d (fg p.p.fz r.1)++p.cs.map (fun m=>(m,.u)),[],if (p.cs.length==2)=true then dF r.2.bx p.vb else [],if (p.cs.length==2&&p.vh)=true then some r.2.hp else none⟩
 | _=>⟨ke p.p.d (fg p.p.fz r.1)++p.cs.map (fun m=>(m,.u)),[],[],none⟩
def jL(R:Rec)(Ω:dK)(E:Env)(p:bR)(v:St):Option cq:=
 if (me v p.p.o&&gj E.dp p v)=true then (execOp R Ω E v p.p.d p.p.o).bind fun r=>if (gZ E.dp p.nk r.1&&okB E.dp p.nb r.1)=true then some (effect p r) else none else none
def eG(R:Rec)(Ω:dK)(E:Env)(p:bR)(s:St):Option cq:=
 match p.p.g with
 | none=>jL R Ω E p (view p s)
 | some (j,want)=>(xm (az s.fr j) want).bind fun y=>if y=true then jL R Ω E p (view p s) else some ⟨ke p.p.d .sk,[],[],none⟩
def eH(R:Rec)(Ω:dK)(E:Env)(s:St)(p:bR):Option St:=
 if p.lt=true then (eG R Ω E p s).bind fun q=>some (q.app s) else ix R Ω E s p.p
def kM(R:Rec)(Ω:dK)(E:Env):St→List bR→Option St
 | st,[]=>some st
 | st,p::ps=>(eH R Ω E st p).bind fun st'=>kM R Ω E st' ps
def uW:pC→List Nat→Bool
 | .st _ _ _,cs=>!cs.isEmpty
 | _,_=>false
def lM(dp:Nat)(st:St)(p:bR):Bool:=!uW p.p.o p.cs||p.vb.all fun h=>st.fr.all fun y=>!jF ⟨dp,h⟩ y.2
def jg(dp:Nat)(st:St)(h:Nat):Bool:=(aZ st.bx h).isNone&&st.fr.all (fun y=>y.2.cU ⟨dp,h⟩&&!y.2.fG (.s h))&&st.bx.all (fun y=>AV.iE ⟨dp,h⟩ y.2)
def iM(E:Env)(st:St):wy→Option St
 | .own d t=>match az st.fr d with
  | .n=>some ((st.bC (.s d)).cS d (.o t []))
  | .o _ _=>some st
  | _=>none
 | .fz d=>match az st.fr d with
  | .o t es=>some (st.cS d (.l t es))
  | _=>none
 | .ownC d off t=>match az st.fr d with
  | .p k o=>if (Pl.c k (o+off)).iI E then
    (st.box E.dp k).bind fun cs=>match cs[o+off]? with
     | some .n=>some ((st.bC (.c k (o+off))).aW E.dp k (cs.set (o+off) (.o t [])))
     | some (.o _ _)=>some st
     | _=>none
   else none
  | _=>none
 | .fzC d off=>match az st.fr d with
  | .p k o=>if (Pl.c k (o+off)).iI E then
    (st.box E.dp k).bind fun cs=>match cs[o+off]? with
     | some (.o t es)=>some (st.aW E.dp k (cs.set (o+off) (.l t es)))
     | some (.l _ _)=>some st
     | some (.f _ _)=>some (st.aW E.dp k (cs.set (o+off) .u))
     | some .nf=>some st
     | _=>none
   else none
  | _=>none
 | .fzB d agg=>match az st.fr d with
  | .p k 0=>if k.dp=E.dp then
    (aZ st.bx k.d).bind fun cs=>if AV.bJ cs then
      if agg then some {(st.cS d (.e (.a cs) 0)) with bx:=st.bx.filter fun y=>y.1 !=k.d}
      else match cs with
       | [c]=>some {(st.cS d (.e c 0)) with bx:=st.bx.filter fun y=>y.1 !=k.d}
       | _=>none
     else none
   else none
  | _=>none
 | .sg d off nd sz=>match az st.fr d with
  | .p k o=>if k.dp=E.dp then
    (aZ st.bx k.d).bind fun cs=>match cs[o+off]? with
     | some (.o t es)=>if es.isEmpty=true then some (((st.aW E.dp k (cs.set (o+off) .u)).bC (.c k (o+off))).aW E.dp k ((cs.set (o+off) .u).set (o+off) (.l t [])))
      else if (es.all (fun e=>e.nc==sz)&&EL E.dp (st.aW E.dp k (cs.set (o+off) .u)) t nd)=true then
       some ((({(st.aW E.dp k (cs.set (o+off) .u)) with bx:=(nd,es.flatMap AV.cl)::(st.aW E.dp k (cs.set (o+off) .u)).bx} : St).bC (.c k (o+off))).aW E.dp k ((cs.set (o+off) .u).set (o+off) (.sp ⟨E.dp,nd⟩ 0 es.length sz)))
      else none
     | some (.l _ _)=>some st
     | _=>none
   else none
  | _=>none
 | .unp d off=>match az st.fr d with
  | .p k o=>if k.dp=E.dp then
    (aZ st.bx k.d).bind fun cs=>match cs[o+off]? with
     | some (.sp k2 0 n sz)=>if k2.dp=E.dp∧k2≠k then (aZ st.bx k2.d).bind fun cs2=>
       if (AV.bJ cs2&&decide (0<sz)&&decide (n*sz≤cs2.length))=true then
        some ((({st with bx:=st.bx.filter fun y=>y.1 !=k2.d} : St).bC (.c k (o+off))).aW E.dp k (cs.set (o+off) (.l (uV k2.d) (chunks sz n cs2))))
       else none
      else none
     | some (.l _ _)=>some st
     | _=>none
   else none
  | _=>none
def sw(E:Env):St→List wy→Option St
 | st,[]=>some st
 | st,p::ps=>(iM E st p).bind fun st'=>sw E st' ps
def St.rV(dp:Nat)(st:St):AV→Option AV
 | .o t es=>some (.l t es)
 | .r (.s d)=>(st.rowAt dp (.s d)).bind fun r=>some (.l r.1 r.2)
 | .r (.c k off)=>if k.dp=dp then (st.rowAt dp (.c k off)).bind fun r=>some (.l r.1 r.2) else none
 | .v (.s d) lo len=>(st.rowAt dp (.s d)).bind fun r=>if lo+len≤r.2.length then some (.l r.1 ((r.2.drop lo).take len)) else none
 | .w _ _ _=>none
 | .ag _ _=>none
 | .bp _ _ _=>none
 | x=>some x
def St.Ix(dp:Nat)(st:St):List AV→Option (List AV)
 | []=>some []
 | x::xs=>(st.rV dp x).bind fun y=>(st.Ix dp xs).bind fun ys=>some (y::ys)
def St.Ar(E:Env)(st:St):RV→Option AV
 | .t n=>st.rV E.dp (az st.fr n)
 | .r _=>none
 | .c n sz=>match az st.fr n with
  | .p k off=>if k.dp=E.dp then
    (aZ st.bx k.d).bind fun cs=>(pick sz off cs).bind fun y=>match y with
     | .a ds=>(st.Ix E.dp ds).bind fun ds=>some (.a ds)
     | y=>st.rV E.dp y
   else none
  | _=>none
def St.sd(E:Env)(st:St):List RV→Option (List AV)
 | []=>some []
 | x::xs=>(st.Ar E x).bind fun y=>(st.sd E xs).bind fun ys=>some (y::ys)
def CX:List AV→AV
 | [x]=>x
 | xs=>.tp xs
def St.result(E:Env)(st:St)(rs:List RV):Option AV:=
 (st.sd E rs).bind fun xs=>if AV.bJ xs then some (CX xs) else none
def St.mN(E:Env)(st:St):List RV→Option (List AV)
 | [.t n]=>match az st.fr n with
  | .p k 0=>if k.dp=E.dp then (aZ st.bx k.d).bind fun cs=>if cs.all s9 then some cs else none else none
  | _=>none
 | _=>none
def St.rowOf(st:St):List RV→Option bA
 | [.r n]=>match az st.fr n with
  | .o t es=>some (.row t es)
  | .r (.s m)=>match az st.fr m with
   | .o t es=>some (.row t es)
   | _=>none
  | _=>none
 | _=>none
def GS:Nat→List AV→Option (Nat×Key×Nat×Nat)
 | _,[]=>none
 | i,.sp k 0 n sz::_=>some (i,k,n,sz)
 | i,_::cs=>GS (i+1) cs
def St.Lq(dp:Nat)(st:St):RV→Option AV
 | .t n=>some (az st.fr n)
 | .c n sz=>match az st.fr n with
  | .p k off=>(st.box dp k).bind fun cs=>pick sz off cs
  | _=>none
 | .r _=>none
def St.PE(E:Env)(st:St):List RV→Option bA
 | [z]=>(st.Lq E.dp z).bind fun y=>match y with
  | .a cs=>(GS 0 cs).bind fun q=>(aZ st.bx q.2.1.d).bind fun bs=>if (AV.nj cs&&decide (q.2.1.dp=E.dp)&&decide (1000000≤q.2.1.d)&&AV.bJ bs&&AV.bJ (cs.set q.1 .z))=true then some (.sg q.1 (cs.set q.1 .z) (uV q.2.1.d) q.2.2.1 q.2.2.2 bs) else none
  | _=>none
 | _=>none
def St.end_(E:Env)(st:St)(rs:List RV):Option bA:=
 match st.result E rs with
 | some x=>some (.ret x)
 | none=>match st.mN E rs with
  | some cs=>some (.new cs)
  | none=>match st.rowOf rs with
   | some e=>some e
   | none=>st.PE E rs
def kq:Nat→List AV→List (Nat×AV)
 | _,[]=>[]
 | i,x::xs=>(i,x)::kq (i+1) xs
def jM(G:qG)(X:Env→AC→St→Option (bh×St)):Rec:=fun E f args hp=>
 (G f).bind fun fn=>(X E fn.code ⟨kq 0 args,[],hp⟩).bind fun r=>match r.1 with
  | .ex _=>none
  | _=>(r.2.end_ E fn.res).bind fun x=>some (x,r.2.hp)
def pU(k:St→Option (bh×St))(r:bh×St):Option (bh×St):=
 match r.1 with
 | .nrm=>k r.2
 | e=>some (e,r.2)
def inBlock(id:Nat)(r:bh×St):Option (bh×St):=
 match r.1 with
 | .ex id'=>if id'=id then some (.nrm,r.2) else some (.ex id',r.2)
 | e=>some (e,r.2)
def sf:List AV→Option (List Int)
 | []=>some []
 | .i .i64 n::r=>(sf r).map (n::·)
 | _=>none
def tF(Ω:dK):AV→Option (List Int)
 | .f f [c]=>if (AV.f f [c]).copy=true then ((Ω f [.u,c]).bind fun x=>match x with
  | .l 0 es=>sf es
  | _=>none) else none
 | _=>none
def St.inner(dp:Nat)(st:St)(x:Nat)(n:Int):St:=⟨(x,.i .i64 n)::st.fr.map fun y=>(y.1,if y.2.copy=true then y.2 else .u),[],fun k=>st.box dp k⟩
def rounds(dp:Nat)(X:AC→St→Option (bh×St))(x:Nat)(y b:AC):List Int→St→Option (bh×St)
 | [],st=>some (.nrm,st)
 | n::ns,st=>if (st.bx.all fun z=>AV.fJ dp z.2)=true then
   (X y (st.inner dp x n)).bind fun q=>match q.1 with
    | .nrm=>(X b q.2).bind fun r=>match r.1 with
     | .nrm=>rounds dp X x y b ns (st.back dp r.2.hp)
     | e=>some (e,st.back dp r.2.hp)
    | _=>none
  else none
def exec(G:qG)(Ω:dK):Nat→Env→AC→St→Option (bh×St)
 | 0,_,_,_=>none
 | n+1,E,c,st=>
  match c with
  | .sk=>some (.nrm,st)
  | .rg pre ops kf kb=>(sw E st pre).bind fun st1=>(iL (jM G (exec G Ω n)) Ω E st1 ops).bind fun st2=>some (.nrm,st2.bB kf kb)
  | .dg pre mks ops kf kb=>(sw E st pre).bind fun st1=>if (mks.all (jg E.dp st1)&&ops.all (lM E.dp st1))=true then
    (kM (jM G (exec G Ω n)) Ω E st1 ops).bind fun st2=>some (.nrm,st2.bB kf kb) else none
  | .sq x y=>(exec G Ω n E x st).bind (pU fun st1=>exec G Ω n E y st1)
  | .ite c x y=>(pB (st.ev c)).bind fun z=>if z=true then exec G Ω n E x st else exec G Ω n E y st
  | .bl id x=>(exec G Ω n E x st).bind (inBlock id)
  | .lp x=>(exec G Ω n E x st).bind (pU fun st1=>exec G Ω n E (.lp x) st1)
  | .ex id=>some (.ex id,st)
  | .rt=>some (.ret,st)
  | .kp kf kb x=>exec G Ω n E x (st.bB kf kb)
  | .bad=>none
  | .ru g x y b=>if E.ro=true then none else (tF Ω (st.ev g)).bind fun ns=>rounds E.dp (exec G Ω n ⟨E.dp+1,false⟩) x y b ns st
end Go.Proofs.YtlmphbbhaeampaaGreat.A
