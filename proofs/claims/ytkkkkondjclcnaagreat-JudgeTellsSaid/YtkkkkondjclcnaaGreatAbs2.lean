/- The abstract run: what the operations, the commands and the calls of the program do with abstract values. A run that this text does not follow answers none. -/
import Derived.Test.YtkkkkondjclcnaaGreatAbs1
set_option linter.all false
namespace Go.Proofs.YtkkkkondjclcnaaGreat.A
open Go
abbrev HP:=Key→Option (List AV)
structure St where
 fr:List (Nat×AV)
 bx:List (Nat×List AV)
 hp:HP
structure Env where
 dp:Nat
 ro:Bool
def au:List (Nat×AV)→Nat→AV
 | [],_=>.u
 | (k,x)::r,d=>if k=d then x else au r d
def aE:List (Nat×List AV)→Nat→Option (List AV)
 | [],_=>none
 | (k,x)::r,d=>if k=d then some x else aE r d
def oU:List (Nat×List AV)→Nat→List AV→List (Nat×List AV)
 | [],_,_=>[]
 | (k,x)::r,d,y=>if k=d then (k,y)::r else (k,x)::oU r d y
def ar(hp:HP)(k:Key)(cs:List AV):HP:=fun k'=>if k'=k then some cs else hp k'
def St.dC(st:St)(d:Nat)(x:AV):St:={st with fr:=(d,x)::st.fr}
def St.box(dp:Nat)(st:St)(k:Key):Option (List AV):=if k.dp=dp then aE st.bx k.d else st.hp k
def St.aL(dp:Nat)(st:St)(k:Key)(cs:List AV):St:=
 if k.dp=dp then {st with bx:=oU st.bx k.d cs} else {st with hp:=ar st.hp k cs}
def St.bc(st:St)(pl:Pl):St:={st with fr:=st.fr.map fun x=>(x.1,if x.2.kq pl=true then .u else x.2)}
def qA:AV→Option Bool
 | .b x=>some x
 | _=>none
def GV:AV→Bool
 | .r _=>true
 | .v _ _ _=>true
 | .q _ _ _ _=>true
 | .w _ _ _=>true
 | .bp _ _ _=>true
 | .ag _ _=>true
 | _=>false
def St.rowAt(dp:Nat)(st:St):Pl→Option (TypeId×List AV)
 | .s d=>match au st.fr d with
  | .o t es=>some (t,es)
  | _=>none
 | .c k off=>match st.box dp k with
  | some cs=>match cs[off]? with
   | some (.o t es)=>some (t,es)
   | _=>none
  | none=>none
def St.putAt(dp:Nat)(st:St)(x:AV):Pl→Option St
 | .s d=>some (st.dC d x)
 | .c k off=>match st.box dp k with
  | some cs=>some (st.aL dp k (cs.set off x))
  | none=>none
def Pl.jM(E:Env):Pl→Bool
 | .s _=>true
 | .c k _=>decide (k.dp=E.dp)||!E.ro
inductive aY where
 | t (n:Nat)
 | c (x:AV)
def St.ev(st:St):aY→AV
 | .t n=>au st.fr n
 | .c x=>x
def St.elems(dp:Nat)(st:St):AV→Option (TypeId×List AV)
 | .l t es=>some (t,es)
 | .n=>some (0,[])
 | .o t es=>some (t,es)
 | .r pl=>st.rowAt dp pl
 | .v pl lo len=>match st.rowAt dp pl with
  | some (t,es)=>if lo+len≤es.length then some (t,(es.drop lo).take len) else none
  | none=>none
 | _=>none
def pick(n:Option Nat)(off:Nat)(cs:List AV):Option AV:=
 match n with
 | none=>cs[off]?
 | some m=>if off+m≤cs.length then some (.a ((cs.drop off).take m)) else none
def putCells(cs:List AV)(off:Nat)(ys:List AV):List AV:=cs.take off++ys++cs.drop (off+ys.length)
def Ji(x:AV):List AV→AV
 | [y]=>y
 | _=>x
def D0(e:AV)(off:Nat)(ys:List AV):AV:=
 match e with
 | .a cs=>.a (putCells cs off ys)
 | x=>Ji x ys
def u9(op:BinOp)(k:IntKind)(a b:Int):Option AV:=
 match op with
 | .add=>some (.i k (k.wrap (a+b)))
 | .sub=>some (.i k (k.wrap (a - b)))
 | .mul=>some (.i k (k.wrap (a*b)))
 | .quo=>if b=0 then none else some (.i k (k.wrap (a.tdiv b)))
 | .rem=>if b=0 then none else some (.i k (a.tmod b))
 | .eql=>some (.b (a==b))
 | .neq=>some (.b (a !=b))
 | .lss=>some (.b (decide (a<b)))
 | .leq=>some (.b (decide (a≤b)))
 | .gtr=>some (.b (decide (b<a)))
 | .geq=>some (.b (decide (b≤a)))
 | .or=>some (.i k (if b>a then b else a))
 | _=>none
def rn(op:BinOp)(bl:Bool)(x y:AV):Option AV:=
 match x,y with
 | .i k a,.i k' b=>if k=k' then u9 op k a b else none
 | .b a,.b b=>if bl then match op with
  | .eql=>some (.b (a==b))
  | .neq=>some (.b (!(a==b)))
  | _=>none
  else none
 | .s a,.s b=>match op with
  | .add=>if a.length+b.length≤4611686018427387904 then some (.s (a++b)) else none
  | .eql=>some (.b (a==b))
  | .neq=>some (.b (!(a==b)))
  | _=>none
 | _,_=>none
inductive nY where
 | mv (x:aY)
 | as (x:aY)
 | pk (c x y:aY)
 | bx (x:aY)
 | al (zs:List AV)
 | ld (n:Option Nat) (x:aY)
 | st (n:Nat) (x y:aY)
 | fa (off:Nat) (x:aY)
 | fd (n:Option Nat) (off:Nat) (x:aY)
 | ia (sz:Nat) (arr:Option Nat) (x i:aY)
 | bo (op:BinOp) (bl:Bool) (x y:aY)
 | no (x:aY)
 | ae (ks:List Nat) (ng:Bool) (x y:aY)
 | bs (t sz:Nat) (es:List aY)
 | bd (zs:List AV) (fs:List (Nat×Nat×aY))
 | ms (t sz:Nat) (by_:Nat) (x:AV) (n:aY)
 | sl (t sz:Nat) (x:aY) (lo hi:Option aY)
 | ex (x:aY) (i:Nat)
 | mf (f:FuncId) (B:List aY)
 | ca (m:Nat) (f:FuncId) (args:List aY)
 | cf (m:Nat) (x:aY) (args:List aY)
 | c2 (f:FuncId) (args:List aY)
 | d2 (x:aY) (args:List aY)
 | c3 (f:FuncId) (args:List aY)
 | d3 (x:aY) (args:List aY)
 | cr (t:Nat) (f:FuncId) (args:List aY)
 | cm (t:TypeId) (f:FuncId) (args:List aY) (x:aY)
 | ln (str:Bool) (x:aY)
 | ap (t sz:Nat) (by_:Nat) (x y:aY)
 | nc (x:aY)
 | ch (f:FuncId) (args:List aY) (sl dl ow:List Nat)
 | ck (f:FuncId) (args:List aY)
 | lk (n:Option Nat) (x y:aY) (lv:Bool)
structure de where
 d:Option Nat
 o:nY
 g:Option (Nat×Bool):=none
 fz:Bool:=false
structure br where
 p:de
 lt:Bool
 vw:List Nat
 vb:List Nat
 vh:Bool
 cs:List Nat
 nk:List Nat
 nb:List Nat
inductive bH where
 | ret (x:AV)
 | new (cs:List AV)
 | row (t:TypeId) (es:List AV)
 | o0 (i:Nat) (cs:List AV) (t:TypeId) (n sz:Nat) (bs:List AV)
inductive aN where
 | nrm
 | ex (id:Nat)
 | ret
inductive wM where
 | own (d:Nat) (t:TypeId)
 | fz (d:Nat)
 | ownC (d off:Nat) (t:TypeId)
 | fzC (d off:Nat)
 | fzB (d:Nat) (agg:Bool)
 | o0 (d off nd sz:Nat)
 | unp (d off:Nat)
inductive AC where
 | sk
 | rg (pre:List wM) (ops:List de) (kf kb:List Nat)
 | dg (pre:List wM) (mks:List Nat) (ops:List br) (kf kb:List Nat)
 | sq (x y:AC)
 | ite (c:aY) (x y:AC)
 | bl (id:Nat) (x:AC)
 | lp (x:AC)
 | ex (id:Nat)
 | rt
 | kp (kf kb:List Nat) (x:AC)
 | bad
 | ru (g:aY) (x:Nat) (y b:AC)
inductive RV where
 | t (n:Nat)
 | c (n:Nat) (sz:Option Nat)
 | r (n:Nat)
structure bE where
 code:AC
 res:List RV
abbrev sb:=FuncId→Option bE
abbrev ef:=FuncId→List AV→Option AV
abbrev Rec:=Env→FuncId→List AV→HP→Option (bH×HP)
def chunks(sz:Nat):Nat→List AV→List AV
 | 0,_=>[]
 | n+1,cs=>(if sz=1 then cs.headD .u else .a (cs.take sz))::chunks sz n (cs.drop sz)
def ub(d:Nat):TypeId:=if 1000000≤d then (d - 1000000) / 1000 else 0
def St.oV(dp:Nat)(st:St)(k:Key)(o n sz:Nat):Option (AV×List TypeId):=
 (st.box dp k).bind fun cs=>if (decide (1000000≤k.d)&&AV.aX cs&&decide (0<sz)&&decide (o+n*sz≤cs.length))=true then some (.l 0 (chunks sz n (cs.drop o)),[(k.d - 1000000) / 1000]) else none
def St.GW(dp:Nat)(st:St)(c:AV):Option (AV×List TypeId):=
 match c with
 | .sp k o n sz=>st.oV dp k o n sz
 | c=>if c.pure then some (c,[]) else none
def St.qC(dp:Nat)(st:St):List AV→Option (List AV×List TypeId)
 | []=>some ([],[])
 | c::cs=>(st.GW dp c).bind fun y=>(st.qC dp cs).bind fun ys=>some (y.1::ys.1,y.2++ys.2)
def St.jl(dp:Nat)(st:St)(x:AV):Option (AV×List TypeId):=
 match x with
 | .o t es=>some (.l t es,[t])
 | .r pl=>(st.rowAt dp pl).bind fun r=>some (.l r.1 r.2,[r.1])
 | .v pl lo len=>(st.rowAt dp pl).bind fun r=>if lo+len≤r.2.length then some (.l r.1 ((r.2.drop lo).take len),[r.1]) else none
 | .w _ t x=>some (x,[t])
 | .sp k o n sz=>st.oV dp k o n sz
 | .a cs=>if AV.aX cs=true then some (.a cs,[]) else (st.qC dp cs).bind fun r=>some (.a r.1,r.2)
 | x=>if x.pure then some (x,[]) else none
def St.fk(dp:Nat)(st:St):List AV→Option (List AV×List TypeId)
 | []=>some ([],[])
 | x::xs=>(st.jl dp x).bind fun y=>(st.fk dp xs).bind fun ys=>some (y.1::ys.1,y.2++ys.2)
def aF(R:Rec)(Ω:ef)(E:Env)(st:St)(m:Nat)(f:FuncId)(args:List AV):Option (AV×St):=
 match m with
 | 0=>(st.fk E.dp args).bind fun ys=>(R ⟨0,false⟩ f ys.1 (fun _=>none)).bind fun r=>match r.1 with
  | .ret x=>if x.pure&&(ys.2.isEmpty||x.off ys.2) then some (x,st) else none
  | _=>none
 | 1=>(st.fk E.dp args).bind fun ys=>(Ω f ys.1).bind fun x=>if x.pure&&(ys.2.isEmpty||x.off ys.2) then some (x,st) else none
 | _=>none
def iZ:AV→Bool
 | .r (.c _ _)=>true
 | .v (.c _ _) _ _=>true
 | .q (.c _ _) _ _ _=>true
 | _=>false
def bY(dp:Nat)(hp:HP):List (Nat×List AV)→List (Nat×List AV)
 | []=>[]
 | (d,_)::r=>match hp ⟨dp,d⟩ with
  | some cs=>(d,cs)::bY dp hp r
  | none=>bY dp hp r
def St.back(dp:Nat)(st:St)(hp:HP):St:=
 ⟨st.fr.map fun x=>(x.1,if iZ x.2=true then .u else x.2),bY dp hp st.bx,fun k=>if k.dp<dp then hp k else none⟩
def AV.cL:AV→Bool
 | .o _ _=>true
 | .r _=>true
 | .v _ _ _=>true
 | x=>x.pure
def bC(R:Rec)(Ω:ef)(E:Env)(st:St)(f:FuncId)(args:List AV):Option (AV×St):=
 if args.all AV.cL=true then aF R Ω E st 0 f args
 else if (!E.ro&&args.all AV.copy&&st.bx.all fun y=>AV.dt E.dp y.2)=true then
  (R ⟨E.dp+1,false⟩ f args (fun k=>st.box E.dp k)).bind fun r=>match r.1 with
   | .ret x=>some (x,st.back E.dp r.2)
   | _=>none
 else none
def iU(R:Rec)(E:Env)(st:St)(f:FuncId)(args:List AV):Option (AV×St):=
 if (args.all AV.copy&&st.bx.all fun y=>AV.dt E.dp y.2)=true then
  (R ⟨E.dp+1,true⟩ f args (fun k=>st.box E.dp k)).bind fun r=>match r.1 with
   | .ret x=>if x.pure=true then some (x,st) else none
   | _=>none
 else none
def ft(bx:List (Nat×List AV))(d:Nat):Bool:=(aE bx d).isNone&&decide (d<1000000)
def NG(dp:Nat)(st:St)(d:Nat):Bool:=ft st.bx d&&st.fr.all (fun y=>y.2.cb ⟨dp,d⟩)&&st.bx.all (fun y=>AV.dm ⟨dp,d⟩ y.2)
def sW:AV→Bool
 | .o _ _=>true
 | x=>x.pure
def Am(R:Rec)(E:Env)(st:St)(d:Nat)(f:FuncId)(args:List AV):Option (AV×St):=
 if AV.aX args=true then (R ⟨E.dp+1,false⟩ f args (fun _=>none)).bind fun r=>match r.1 with
  | .new cs=>if (cs.all sW&&NG E.dp st d)=true then some (.p ⟨E.dp,d⟩ 0,{st with bx:=(d,cs)::st.bx}) else none
  | _=>none
 else none
def KY(Ω:ef)(st:St)(d:Nat)(t:TypeId)(f:FuncId)(args:List AV):Option (AV×St):=
 if AV.aX args=true then (Ω f args).bind fun x=>match x with
  | .o t' []=>if t'=t then some (.o t [],st.bc (.s d)) else none
  | _=>none
 else none
mutual
def AV.rp(t:TypeId):AV→Bool
 | .a cs=>AV.yx t cs
 | .tp cs=>AV.yx t cs
 | .f _ cs=>AV.yx t cs
 | .ifc _ x=>AV.rp t x
 | .l t' es=>es.isEmpty||(t'==t&&AV.yx t es)
 | .e _ _=>false
 | _=>true
def AV.yx(t:TypeId):List AV→Bool
 | []=>true
 | x::xs=>AV.rp t x&&AV.yx t xs
end
def fi(dp:Nat)(st:St)(y:AV)(lv:Bool):Option Key:=match y with
 | .p k off=>if lv=true then (match (st.box dp k).bind (fun cs=>cs[off]?) with
  | some (.p k2 _)=>some k2
  | _=>none) else some k
 | _=>none
def FD(dp:Nat)(ow:List Nat):AV→Bool
 | .p k _=>decide (k.dp=dp)&&ow.contains k.d
 | _=>false
def jF(dp:Nat)(st:St)(sl dl ow:List Nat)(k:Key):Bool:=
 (sl.any fun n=>fi dp st (au st.fr n) false==some k)||(dl.any fun n=>!FD dp ow (au st.fr n)&&fi dp st (au st.fr n) true==some k)||(decide (k.dp=dp)&&ow.contains k.d)
def eC(dp:Nat)(st:St)(sl dl ow:List Nat)(hp:HP):HP:=fun k=>if jF dp st sl dl ow k=true then st.box dp k else hp k
def Cq(dp:Nat)(st:St)(sl dl ow:List Nat):HP:=fun k=>if jF dp st sl dl ow k=true then none else st.box dp k
def jN(hid:Key→Bool):AV→Bool
 | .r (.c k _)=>!hid k
 | .v (.c k _) _ _=>!hid k
 | .q (.c k _) _ _ _=>!hid k
 | _=>false
def uA(bx:List (Nat×List AV))(g:Nat→List AV→Bool):Bool:=bx.all fun y=>g y.1 ((aE bx y.1).getD [])
def D1(dp:Nat):Option Key→Bool
 | some k=>decide (k.dp≤dp)
 | none=>false
def St.cF(dp:Nat)(st:St)(hp:HP):St:=⟨st.fr,bY dp hp st.bx,fun k=>if k.dp<dp then hp k else none⟩
def nI(R:Rec)(E:Env)(st:St)(f:FuncId)(args:List AV)(sl dl ow:List Nat):Option (AV×St):=
 if (!E.ro&&args.all AV.copy&&uA st.bx (fun _ cs=>AV.dt E.dp cs)&&(st.fr.all fun y=>!jN (jF E.dp st sl dl ow) y.2)&&sl.all (fun n=>D1 E.dp (fi E.dp st (au st.fr n) false))&&dl.all (fun n=>!FD E.dp ow (au st.fr n)&&D1 E.dp (fi E.dp st (au st.fr n) true)))=true then
  (R ⟨E.dp+1,false⟩ f args (Cq E.dp st sl dl ow)).bind fun r=>match r.1 with
   | .ret x=>if (x.pure&&uA (st.cF E.dp (eC E.dp st sl dl ow r.2)).bx fun d cs=>ow.contains d||ow.all fun h=>AV.dm ⟨E.dp,h⟩ cs)=true then some (x,st.cF E.dp (eC E.dp st sl dl ow r.2)) else none
   | _=>none
 else none
def Xp(g:Nat)(t:TypeId):AV→AV
 | .i k n=>.i k n
 | .b x=>.b x
 | x=>.w g t x
def sX:AV→Option Nat
 | .i _ n=>if 0≤n then some n.toNat else none
 | _=>none
def pY(st:St)(x:Option aY)(dflt:Nat):Option Nat:=
 match x with
 | none=>some dflt
 | some y=>sX (st.ev y)
def consume(E:Env)(st:St)(t:TypeId):aY→Option (List AV×St)
 | .c .n=>some ([],st)
 | .c _=>none
 | .t m=>match au st.fr m with
  | .n=>some ([],st)
  | .o t' es=>if t'=t then some (es,st.dC m .u) else none
  | .r pl=>if pl.jM E then (st.rowAt E.dp pl).bind fun r=>if r.1=t then (st.putAt E.dp .u pl).bind fun st'=>some (r.2,st') else none else none
  | .v pl lo len=>if pl.jM E&&lo==0 then
    (st.rowAt E.dp pl).bind fun r=>if len≤r.2.length∧r.1=t then (st.putAt E.dp .u pl).bind fun st'=>some (r.2.take len,st') else none
   else none
  | _=>none
def zJ(dp:Nat)(st:St)(t d:Nat):Bool:=((aE st.bx d).isNone&&decide (1000000≤d)&&decide ((d - 1000000) / 1000=t))&&st.fr.all (fun y=>y.2.cb ⟨dp,d⟩)&&st.bx.all (fun y=>AV.dm ⟨dp,d⟩ y.2)
def KZ(R:Rec)(E:Env)(st:St)(d:Nat)(t:TypeId)(f:FuncId)(args:List AV)(x:aY):Option (AV×St):=
 if (!E.ro&&AV.aX args)=true then (consume E st t x).bind fun q=>(R ⟨E.dp+1,false⟩ f (args++[.o t q.1]) (fun _=>none)).bind fun r=>match r.1 with
  | .row t' es=>some (.o t' es,q.2.bc (.s d))
  | _=>none
 else none
def elemAt(sz:Nat)(st:St)(e:Option AV)(x:AV→AV):Option (AV×St):=
 e.bind fun e=>if e.nc=sz then some (x e,st) else none
def bytesOf:List AV→Option (List UInt8)
 | []=>some []
 | .i .u8 n::r=>if 0≤n∧n<256 then (bytesOf r).map (UInt8.ofNat n.toNat::·) else none
 | _=>none
def kr:List Nat→List AV→List AV→Option Bool
 | [],[],[]=>some true
 | 0::ks,.b m::xs,.b n::ys=>(kr ks xs ys).map fun r=>(m==n)&&r
 | 1::ks,.i k m::xs,.i k' n::ys=>if k=k' then (kr ks xs ys).map fun r=>(m==n)&&r else none
 | 2::ks,.s m::xs,.s n::ys=>(kr ks xs ys).map fun r=>(m==n)&&r
 | _,_,_=>none
def EL:AV→Bool
 | .u=>true
 | _=>false
def rowOf(st:St):aY→Option Nat
 | .t m=>match au st.fr m with
  | .o _ _=>some m
  | _=>none
 | .c _=>none
def execOp(R:Rec)(Ω:ef)(E:Env)(st:St)(d:Option Nat):nY→Option (AV×St)
 | .mv x=>match st.ev x with
  | .o _ _=>match x with
   | .t n=>some (.r (.s n),st)
   | .c _=>none
  | y=>some (y,st)
 | .as x=>match x with
  | .c y=>if y.pure then some (y,st) else none
  | .t n=>match au st.fr n with
   | .o t es=>d.bind fun d=>some (.o t es,(st.dC n .u).bc (.s d))
   | .v pl lo len=>d.bind fun d=>
    if pl= .s d&&lo==0 then (st.rowAt E.dp pl).bind fun r=>if len≤r.2.length then some (.o r.1 (r.2.take len),st.bc (.s d)) else none
    else some (.v pl lo len,st)
   | y=>if y.copy||GV y then some (y,st) else none
 | .pk c x y=>(qA (st.ev c)).bind fun z=>
  if z=true then (if (st.ev x).copy then some (st.ev x,st) else none) else (if (st.ev y).copy then some (st.ev y,st) else none)
 | .bx x=>d.bind fun d=>
  let cs:=(st.ev x).cl
  if (st.ev x).copy&&cs.all AV.one&&(st.ev x).deep E.dp&&ft st.bx d&&st.fr.all (fun y=>y.2.cb ⟨E.dp,d⟩)&&st.bx.all (fun y=>AV.dm ⟨E.dp,d⟩ y.2)
  then some (.p ⟨E.dp,d⟩ 0,{st with bx:=(d,cs)::st.bx}) else none
 | .al zs=>d.bind fun d=>
  if ft st.bx d&&st.fr.all (fun y=>y.2.cb ⟨E.dp,d⟩)&&st.bx.all (fun y=>AV.dm ⟨E.dp,d⟩ y.2)
  then some (.p ⟨E.dp,d⟩ 0,{st with bx:=(d,zs)::st.bx}) else none
 | .ld n x=>match st.ev x with
  | .p k off=>(st.box E.dp k).bind fun cs=>(pick n off cs).bind fun y=>match y with
   | .o _ _=>some (.r (.c k off),st)
   | y=>if y.copy then some (y,st) else none
  | .e x off=>(pick n off x.cl).bind fun y=>some (y,st)
  | .q pl i sz off=>(st.rowAt E.dp pl).bind fun r=>(r.2[i]?).bind fun e=>if e.nc=sz then (pick n off e.cl).bind fun y=>some (y,st) else none
  | _=>none
 | .st n x y=>match st.ev x with
  | .p k off=>
   if (Pl.c k off).jM E then
    (st.box E.dp k).bind fun cs=>match st.ev y with
    | .o t es=>match y with
     | .t m=>if n==1&&decide (off<cs.length) then some (.u,(((st.dC m .u).bc (.c k off)).aL E.dp k (cs.set off (.o t es)))) else none
     | _=>none
    | .v pl lo len=>
     if pl= .c k off&&lo==0&&n==1 then (st.rowAt E.dp pl).bind fun r=>if len≤r.2.length then some (.u,(st.bc (.c k off)).aL E.dp k (cs.set off (.o r.1 (r.2.take len)))) else none
     else none
    | y=>if y.copy&&y.nc==n&&y.cl.all AV.one&&y.deep k.dp&&decide (off+n≤cs.length) then some (.u,st.aL E.dp k (putCells cs off y.cl)) else none
   else none
  | .q pl i sz off=>
   if pl.jM E then
    (st.rowAt E.dp pl).bind fun r=>(r.2[i]?).bind fun e=>
     if e.nc==sz&&(st.ev y).pure&&(st.ev y).nc==n&&(st.ev y).cl.all AV.one&&decide (off+n≤sz) then
      (st.putAt E.dp (.o r.1 (r.2.set i (D0 e off (st.ev y).cl))) pl).bind fun st'=>some (.u,st')
     else none
   else none
  | _=>none
 | .fa off x=>match st.ev x with
  | .p k o=>some (.p k (o+off),st)
  | .e y o=>some (.e y (o+off),st)
  | .q pl i sz o=>(st.rowAt E.dp pl).bind fun r=>if i<r.2.length then some (.q pl i sz (o+off),st) else none
  | _=>none
 | .fd n off x=>match st.ev x with
  | .a cs=>(pick n off cs).bind fun y=>some (y,st)
  | _=>none
 | .ia sz arr x i=>(sX (st.ev i)).bind fun j=>match arr with
  | some len=>if j<len then
    match st.ev x with
    | .p k o=>some (.p k (o+j*sz),st)
    | .e y o=>some (.e y (o+j*sz),st)
    | _=>none
   else none
  | none=>match st.ev x with
   | .l _ es=>elemAt sz st es[j]? fun e=>.e e 0
   | .o _ es=>match x with
    | .t m=>elemAt sz st es[j]? fun _=>.q (.s m) j sz 0
    | _=>none
   | .r pl=>(st.rowAt E.dp pl).bind fun r=>elemAt sz st r.2[j]? fun _=>.q pl j sz 0
   | .v pl lo len=>if j<len then (st.rowAt E.dp pl).bind fun r=>if lo+len≤r.2.length then elemAt sz st r.2[lo+j]? fun _=>.q pl (lo+j) sz 0 else none else none
   | .sp k o n s=>if j<n∧s=sz then some (.p k (o+j*sz),st) else none
   | _=>none
 | .bo op bl x y=>(rn op bl (st.ev x) (st.ev y)).bind fun r=>some (r,st)
 | .no x=>(qA (st.ev x)).bind fun y=>some (.b (!y),st)
 | .ae ks ng x y=>match st.ev x,st.ev y with
  | .a xs,.a ys=>(kr ks xs ys).bind fun r=>some (.b (if ng then !r else r),st)
  | _,_=>none
 | .bs t sz es=>d.bind fun d=>
  let vs:=es.map st.ev
  if vs.all (fun y=>y.pure&&y.cl.all AV.one&&y.nc==sz) then some (.o t vs,st.bc (.s d)) else none
 | .bd zs fs=>
  if fs.all (fun f=>(st.ev f.2.2).copy&&(st.ev f.2.2).nc==f.2.1&&(st.ev f.2.2).cl.all AV.one&&decide (f.1+f.2.1≤zs.length)) then
   some (.a (fs.foldl (fun cs f=>putCells cs f.1 (st.ev f.2.2).cl) zs),st) else none
 | .ms t _ by_ x n=>d.bind fun d=>(sX (st.ev n)).bind fun n=>
  if n*by_≤140737488355328&&decide (n≤maxLen) then some (.o t (List.replicate n x),st.bc (.s d)) else none
 | .sl t sz x lo hi=>match st.ev x with
  | .s l=>(pY st lo 0).bind fun a=>(pY st hi l.length).bind fun b=>if t==0&&decide (a≤b)&&decide (b≤l.length) then some (.s ((l.take b).drop a),st) else none
  | .l t' es=>(pY st lo 0).bind fun a=>(pY st hi es.length).bind fun b=>if t !=0&&es.all (fun e=>e.nc==sz)&&decide (a≤b)&&decide (b≤es.length) then some (.l t' ((es.take b).drop a),st) else none
  | .r pl=>(st.rowAt E.dp pl).bind fun r=>(pY st lo 0).bind fun a=>(pY st hi r.2.length).bind fun b=>
   if t !=0&&r.1==t&&decide (a≤b)&&decide (b≤r.2.length) then some (.v pl a (b - a),st) else none
  | _=>none
 | .ex x i=>match st.ev x with
  | .tp vs=>(vs[i]?).bind fun y=>some (y,st)
  | _=>none
 | .mf f B=>if AV.nW (B.map st.ev) then some (.f f (B.map st.ev),st) else none
 | .ca m f args=>aF R Ω E st m f (args.map st.ev)
 | .cf m x args=>match st.ev x with
  | .f f B=>if f<1000000 then aF R Ω E st m f (args.map st.ev++B) else none
  | _=>none
 | .c2 f args=>bC R Ω E st f (args.map st.ev)
 | .d2 x args=>match st.ev x with
  | .f f B=>if f<1000000 then bC R Ω E st f (args.map st.ev++B) else bC R Ω E st (f - 1000000) (B++args.map st.ev)
  | _=>none
 | .c3 f args=>iU R E st f (args.map st.ev)
 | .d3 x args=>match st.ev x with
  | .f f B=>if f<1000000 then iU R E st f (args.map st.ev++B) else none
  | _=>none
 | .cr t f args=>d.bind fun d=>KY Ω st d t f (args.map st.ev)
 | .cm t f args x=>d.bind fun d=>KZ R E st d t f (args.map st.ev) x
 | .ln str x=>match st.ev x with
  | .s l=>if str then some (.i .i64 l.length,st) else none
  | .sp _ _ n _=>if str then none else some (.i .i64 n,st)
  | y=>if str then none else (st.elems E.dp y).bind fun r=>some (.i .i64 r.2.length,st)
 | .ap t sz by_ x y=>d.bind fun d=>(st.elems E.dp (st.ev y)).bind fun ys=>(consume E st t x).bind fun r=>
  if ys.2.all (fun e=>e.nc==sz)&&decide ((r.1.length+ys.2.length)*by_≤140737488355328)&&decide (r.1.length+ys.2.length≤maxLen)
  then some (.o t (r.1++ys.2),r.2.bc (.s d)) else none
 | .nc x=>match st.ev x with
  | .p k o=>some (.p k o,st)
  | .e y o=>some (.e y o,st)
  | .q _ _ _ _=>none
  | .f g B=>some (.f g B,st)
  | _=>none
 | .ch f args sl dl ow=>nI R E st f (args.map st.ev) sl dl ow
 | .ck f args=>d.bind fun d=>Am R E st d f (args.map st.ev)
 | .lk n x y lv=>match st.ev x with
  | .p k off=>if fi E.dp st (st.ev y) lv=some k then (st.box E.dp k).bind fun cs=>(pick n off cs).bind fun y=>match y with
    | .o _ _=>some (.r (.c k off),st)
    | y=>if y.copy then some (y,st) else none
   else none
  | _=>none
def put(st:St)(d:Option Nat)(x:AV):St:=
 match d with
 | some d=>st.dC d x
 | none=>st
def wN:AV→Bool→Option Bool
 | .b x,want=>some (x==want)
 | .sk,_=>some false
 | _,_=>none
def eV:Bool→AV→AV
 | true,.o t es=>.l t es
 | _,x=>x
def fS(R:Rec)(Ω:ef)(E:Env)(st:St)(g:de):Option St:=
 match g.g with
 | none=>(execOp R Ω E st g.d g.o).bind fun r=>some (put r.2 g.d (eV g.fz r.1))
 | some (j,want)=>(wN (au st.fr j) want).bind fun y=>
  if y=true then (execOp R Ω E st g.d g.o).bind fun r=>some (put r.2 g.d (eV g.fz r.1)) else some (put st g.d .sk)
def iq(R:Rec)(Ω:ef)(E:Env):St→List de→Option St
 | st,[]=>some st
 | st,g::gs=>(fS R Ω E st g).bind fun st'=>iq R Ω E st' gs
def eE(fr:List (Nat×AV))(ks:List Nat):List (Nat×AV):=ks.map fun k=>(k,au fr k)
def du(bx:List (Nat×List AV)):List Nat→List (Nat×List AV)
 | []=>[]
 | k::ks=>match aE bx k with
  | some cs=>(k,cs)::du bx ks
  | none=>du bx ks
def St.aG(st:St)(kf kb:List Nat):St:={st with fr:=eE st.fr kf,bx:=du st.bx kb}
def view(p:br)(s:St):St:=⟨eE s.fr p.vw,du s.bx p.vb,if p.vh=true then s.hp else fun _=>none⟩
def pJ:AV→Bool
 | .o _ _=>true
 | _=>false
def kR(v:St):nY→Bool
 | .as x=>(v.ev x).copy
 | .mv x=>!EL (v.ev x)
 | .ap _ _ _ x _=>match v.ev x with
  | .o _ _=>true
  | .n=>true
  | .r (.c _ _)=>true
  | _=>false
 | .st _ x y=>((v.ev y).copy||pJ (v.ev y))&&match v.ev x with
  | .p _ _=>true
  | _=>false
 | _=>true
def K0:AV→Bool
 | .r (.c _ _)=>true
 | _=>false
def df(dp:Nat)(p:br)(v:St):Bool:=
 match p.p.o with
 | .st _ x y=>!pJ (v.ev y)||(match v.ev x with
  | .p k _=>decide (k.dp=dp)&&p.vb==[k.d]&&(match y with
   | .t m=>p.cs==[m]
   | .c _=>false)
  | _=>false)
 | .ap _ _ _ x _=>K0 (v.ev x)==(p.cs.length==2)
 | _=>true
def ir(k:Key):AV→Bool
 | .r (.c k' _)=>decide (k'=k)
 | .v (.c k' _) _ _=>decide (k'=k)
 | .q (.c k' _) _ _ _=>decide (k'=k)
 | _=>false
def gv(dp:Nat)(mk:List Nat)(x:AV):Bool:=mk.all fun h=>x.cb ⟨dp,h⟩&&!x.kq (.s h)
def okB(dp:Nat)(nb:List Nat)(x:AV):Bool:=(nb.all fun h=>!ir ⟨dp,h⟩ x)&&(!nb.contains 1000000||!iZ x)
structure bL where
 fr:List (Nat×AV)
 nb:List (Nat×List AV)
 wb:List (Nat×List AV)
 hp:Option HP
def sY(bx:List (Nat×List AV)):List (Nat×List AV)→List (Nat×List AV)
 | []=>bx
 | (b,cs)::r=>oU (sY bx r) b cs
def bL.app(q:bL)(s:St):St:=⟨q.fr++s.fr,q.nb++sY s.bx q.wb,q.hp.getD s.hp⟩
def jO(d:Option Nat)(x:AV):List (Nat×AV):=
 match d with
 | some d=>[(d,x)]
 | none=>[]
def effect(p:br)(r:AV×St):bL:=
 match p.p.o with
 | .al zs=>match p.p.d with
  | some d=>⟨[(d,r.1)],[(d,zs)],[],none⟩
  | none=>⟨[],[],[],none⟩
 | .ck _ _=>match p.p.d with
  | some d=>⟨[(d,r.1)],(match aE r.2.bx d with
   | some cs=>[(d,cs)]
   | none=>[]),[],none⟩
  | none=>⟨[],[],[],none⟩
 | .st _ _ _=>⟨p.cs.map (fun m=>(m,.u)),[],du r.2.bx p.vb,if p.vh=true then some r.2.hp else none⟩
 | .ap _ _ _ _ _=>⟨jO p.p.d (eV p.p.fz r.1)++p.cs.map (fun m=>(m,.u)),[],if (p.cs.length==2)=true then du r.2.bx p.vb else [],if (p.cs.length==2&&p.vh)=true then some r.2.hp else none⟩
 | _=>⟨jO p.p.d (eV p.p.fz r.1)++p.cs.map (fun m=>(m,.u)),[],[],none⟩
def jx(R:Rec)(Ω:ef)(E:Env)(p:br)(v:St):Option bL:=
 if (kR v p.p.o&&df E.dp p v)=true then (execOp R Ω E v p.p.d p.p.o).bind fun r=>if (gv E.dp p.nk r.1&&okB E.dp p.nb r.1)=true then some (effect p r) else none else none
def dy(R:Rec)(Ω:ef)(E:Env)(p:br)(s:St):Option bL:=
 match p.p.g with
 | none=>jx R Ω E p (view p s)
 | some (j,want)=>(wN (au s.fr j) want).bind fun y=>if y=true then jx R Ω E p (view p s) else some ⟨jO p.p.d .sk,[],[],none⟩
def dF(R:Rec)(Ω:ef)(E:Env)(s:St)(p:br):Option St:=
 if p.lt=true then (dy R Ω E p s).bind fun q=>some (q.app s) else fS R Ω E s p.p
def lC(R:Rec)(Ω:ef)(E:Env):St→List br→Option St
 | st,[]=>some st
 | st,p::ps=>(dF R Ω E st p).bind fun st'=>lC R Ω E st' ps
def wY:nY→List Nat→Bool
 | .st _ _ _,cs=>!cs.isEmpty
 | _,_=>false
def fT(dp:Nat)(st:St)(p:br):Bool:=!wY p.p.o p.cs||p.vb.all fun h=>st.fr.all fun y=>!ir ⟨dp,h⟩ y.2
def um(dp:Nat)(st:St)(h:Nat):Bool:=(aE st.bx h).isNone&&st.fr.all (fun y=>y.2.cb ⟨dp,h⟩&&!y.2.kq (.s h))&&st.bx.all (fun y=>AV.dm ⟨dp,h⟩ y.2)
def iE(E:Env)(st:St):wM→Option St
 | .own d t=>match au st.fr d with
  | .n=>some ((st.bc (.s d)).dC d (.o t []))
  | .o _ _=>some st
  | _=>none
 | .fz d=>match au st.fr d with
  | .o t es=>some (st.dC d (.l t es))
  | _=>none
 | .ownC d off t=>match au st.fr d with
  | .p k o=>if (Pl.c k (o+off)).jM E then
    (st.box E.dp k).bind fun cs=>match cs[o+off]? with
     | some .n=>some ((st.bc (.c k (o+off))).aL E.dp k (cs.set (o+off) (.o t [])))
     | some (.o _ _)=>some st
     | _=>none
   else none
  | _=>none
 | .fzC d off=>match au st.fr d with
  | .p k o=>if (Pl.c k (o+off)).jM E then
    (st.box E.dp k).bind fun cs=>match cs[o+off]? with
     | some (.o t es)=>some (st.aL E.dp k (cs.set (o+off) (.l t es)))
     | some (.l _ _)=>some st
     | some (.f _ _)=>some (st.aL E.dp k (cs.set (o+off) .u))
     | some .nf=>some st
     | _=>none
   else none
  | _=>none
 | .fzB d agg=>match au st.fr d with
  | .p k 0=>if k.dp=E.dp then
    (aE st.bx k.d).bind fun cs=>if AV.aX cs then
      if agg then some {(st.dC d (.e (.a cs) 0)) with bx:=st.bx.filter fun y=>y.1 !=k.d}
      else match cs with
       | [c]=>some {(st.dC d (.e c 0)) with bx:=st.bx.filter fun y=>y.1 !=k.d}
       | _=>none
     else none
   else none
  | _=>none
 | .o0 d off nd sz=>match au st.fr d with
  | .p k o=>if k.dp=E.dp then
    (aE st.bx k.d).bind fun cs=>match cs[o+off]? with
     | some (.o t es)=>if es.isEmpty=true then some (((st.aL E.dp k (cs.set (o+off) .u)).bc (.c k (o+off))).aL E.dp k ((cs.set (o+off) .u).set (o+off) (.l t [])))
      else if (es.all (fun e=>e.nc==sz)&&zJ E.dp (st.aL E.dp k (cs.set (o+off) .u)) t nd)=true then
       some ((({(st.aL E.dp k (cs.set (o+off) .u)) with bx:=(nd,es.flatMap AV.cl)::(st.aL E.dp k (cs.set (o+off) .u)).bx} : St).bc (.c k (o+off))).aL E.dp k ((cs.set (o+off) .u).set (o+off) (.sp ⟨E.dp,nd⟩ 0 es.length sz)))
      else none
     | some (.l _ _)=>some st
     | _=>none
   else none
  | _=>none
 | .unp d off=>match au st.fr d with
  | .p k o=>if k.dp=E.dp then
    (aE st.bx k.d).bind fun cs=>match cs[o+off]? with
     | some (.sp k2 0 n sz)=>if k2.dp=E.dp∧k2≠k then (aE st.bx k2.d).bind fun cs2=>
       if (AV.aX cs2&&decide (0<sz)&&decide (n*sz≤cs2.length))=true then
        some ((({st with bx:=st.bx.filter fun y=>y.1 !=k2.d} : St).bc (.c k (o+off))).aL E.dp k (cs.set (o+off) (.l (ub k2.d) (chunks sz n cs2))))
       else none
      else none
     | some (.l _ _)=>some st
     | _=>none
   else none
  | _=>none
def sZ(E:Env):St→List wM→Option St
 | st,[]=>some st
 | st,p::ps=>(iE E st p).bind fun st'=>sZ E st' ps
def St.pZ(dp:Nat)(st:St):AV→Option AV
 | .o t es=>some (.l t es)
 | .r (.s d)=>(st.rowAt dp (.s d)).bind fun r=>some (.l r.1 r.2)
 | .r (.c k off)=>if k.dp=dp then (st.rowAt dp (.c k off)).bind fun r=>some (.l r.1 r.2) else none
 | .v (.s d) lo len=>(st.rowAt dp (.s d)).bind fun r=>if lo+len≤r.2.length then some (.l r.1 ((r.2.drop lo).take len)) else none
 | .w _ _ _=>none
 | .ag _ _=>none
 | .bp _ _ _=>none
 | x=>some x
def St.K1(dp:Nat)(st:St):List AV→Option (List AV)
 | []=>some []
 | x::xs=>(st.pZ dp x).bind fun y=>(st.K1 dp xs).bind fun ys=>some (y::ys)
def St.Ay(E:Env)(st:St):RV→Option AV
 | .t n=>st.pZ E.dp (au st.fr n)
 | .r _=>none
 | .c n sz=>match au st.fr n with
  | .p k off=>if k.dp=E.dp then
    (aE st.bx k.d).bind fun cs=>(pick sz off cs).bind fun y=>match y with
     | .a ds=>(st.K1 E.dp ds).bind fun ds=>some (.a ds)
     | y=>st.pZ E.dp y
   else none
  | _=>none
def St.sc(E:Env)(st:St):List RV→Option (List AV)
 | []=>some []
 | x::xs=>(st.Ay E x).bind fun y=>(st.sc E xs).bind fun ys=>some (y::ys)
def EM:List AV→AV
 | [x]=>x
 | xs=>.tp xs
def St.result(E:Env)(st:St)(rs:List RV):Option AV:=
 (st.sc E rs).bind fun xs=>if AV.aX xs then some (EM xs) else none
def St.fU(E:Env)(st:St):List RV→Option (List AV)
 | [.t n]=>match au st.fr n with
  | .p k 0=>if k.dp=E.dp then (aE st.bx k.d).bind fun cs=>if cs.all sW then some cs else none else none
  | _=>none
 | _=>none
def St.rowOf(st:St):List RV→Option bH
 | [.r n]=>match au st.fr n with
  | .o t es=>some (.row t es)
  | .r (.s m)=>match au st.fr m with
   | .o t es=>some (.row t es)
   | _=>none
  | _=>none
 | _=>none
def Jj:Nat→List AV→Option (Nat×Key×Nat×Nat)
 | _,[]=>none
 | i,.sp k 0 n sz::_=>some (i,k,n,sz)
 | i,_::cs=>Jj (i+1) cs
def St.N9(dp:Nat)(st:St):RV→Option AV
 | .t n=>some (au st.fr n)
 | .c n sz=>match au st.fr n with
  | .p k off=>(st.box dp k).bind fun cs=>pick sz off cs
  | _=>none
 | .r _=>none
def St.Sz(E:Env)(st:St):List RV→Option bH
 | [z]=>(st.N9 E.dp z).bind fun y=>match y with
  | .a cs=>(Jj 0 cs).bind fun q=>(aE st.bx q.2.1.d).bind fun bs=>if (AV.nW cs&&decide (q.2.1.dp=E.dp)&&decide (1000000≤q.2.1.d)&&AV.aX bs&&AV.aX (cs.set q.1 .z))=true then some (.o0 q.1 (cs.set q.1 .z) (ub q.2.1.d) q.2.2.1 q.2.2.2 bs) else none
  | _=>none
 | _=>none
def St.end_(E:Env)(st:St)(rs:List RV):Option bH:=
 match st.result E rs with
 | some x=>some (.ret x)
 | none=>match st.fU E rs with
  | some cs=>some (.new cs)
  | none=>match st.rowOf rs with
   | some e=>some e
   | none=>st.Sz E rs
def jy:Nat→List AV→List (Nat×AV)
 | _,[]=>[]
 | i,x::xs=>(i,x)::jy (i+1) xs
def jP(G:sb)(X:Env→AC→St→Option (aN×St)):Rec:=fun E f args hp=>
 (G f).bind fun fn=>(X E fn.code ⟨jy 0 args,[],hp⟩).bind fun r=>match r.1 with
  | .ex _=>none
  | _=>(r.2.end_ E fn.res).bind fun x=>some (x,r.2.hp)
def qZ(k:St→Option (aN×St))(r:aN×St):Option (aN×St):=
 match r.1 with
 | .nrm=>k r.2
 | e=>some (e,r.2)
def inBlock(id:Nat)(r:aN×St):Option (aN×St):=
 match r.1 with
 | .ex id'=>if id'=id then some (.nrm,r.2) else some (.ex id',r.2)
 | e=>some (e,r.2)
def Az:List AV→Option (List Int)
 | []=>some []
 | .i .i64 n::r=>(Az r).map (n::·)
 | _=>none
def vU(Ω:ef):AV→Option (List Int)
 | .f f [c]=>if (AV.f f [c]).copy=true then ((Ω f [.u,c]).bind fun x=>match x with
  | .l 0 es=>Az es
  | _=>none) else none
 | _=>none
def St.inner(dp:Nat)(st:St)(x:Nat)(n:Int):St:=⟨(x,.i .i64 n)::st.fr.map fun y=>(y.1,if y.2.copy=true then y.2 else .u),[],fun k=>st.box dp k⟩
def rounds(dp:Nat)(X:AC→St→Option (aN×St))(x:Nat)(y b:AC):List Int→St→Option (aN×St)
 | [],st=>some (.nrm,st)
 | n::ns,st=>if (st.bx.all fun z=>AV.dt dp z.2)=true then
   (X y (st.inner dp x n)).bind fun q=>match q.1 with
    | .nrm=>(X b q.2).bind fun r=>match r.1 with
     | .nrm=>rounds dp X x y b ns (st.back dp r.2.hp)
     | e=>some (e,st.back dp r.2.hp)
    | _=>none
  else none
def exec(G:sb)(Ω:ef):Nat→Env→AC→St→Option (aN×St)
 | 0,_,_,_=>none
 | n+1,E,c,st=>
  match c with
  | .sk=>some (.nrm,st)
  | .rg pre ops kf kb=>(sZ E st pre).bind fun st1=>(iq (jP G (exec G Ω n)) Ω E st1 ops).bind fun st2=>some (.nrm,st2.aG kf kb)
  | .dg pre mks ops kf kb=>(sZ E st pre).bind fun st1=>if (mks.all (um E.dp st1)&&ops.all (fT E.dp st1))=true then
    (lC (jP G (exec G Ω n)) Ω E st1 ops).bind fun st2=>some (.nrm,st2.aG kf kb) else none
  | .sq x y=>(exec G Ω n E x st).bind (qZ fun st1=>exec G Ω n E y st1)
  | .ite c x y=>(qA (st.ev c)).bind fun z=>if z=true then exec G Ω n E x st else exec G Ω n E y st
  | .bl id x=>(exec G Ω n E x st).bind (inBlock id)
  | .lp x=>(exec G Ω n E x st).bind (qZ fun st1=>exec G Ω n E (.lp x) st1)
  | .ex id=>some (.ex id,st)
  | .rt=>some (.ret,st)
  | .kp kf kb x=>exec G Ω n E x (st.aG kf kb)
  | .bad=>none
  | .ru g x y b=>if E.ro=true then none else (vU Ω (st.ev g)).bind fun ns=>rounds E.dp (exec G Ω n ⟨E.dp+1,false⟩) x y b ns st
end Go.Proofs.YtkkkkondjclcnaaGreat.A
