/- The abstract run: what the operations, the commands and the calls of the program do with abstract values. A run that this text does not follow answers none. -/
import Derived.Test.YtkkkkondjclcnaaAbs1
set_option linter.unusedSectionVars false
set_option linter.unusedVariables false
set_option linter.unusedSimpArgs false
set_option linter.constructorNameAsVariable false
namespace Go.Proofs.Ytkkkkondjclcnaa.A
open Go
abbrev HP:=Key→Option (List AV)
structure St where
 fr:List (Nat×AV)
 bx:List (Nat×List AV)
 hp:HP
structure Env where
 dp:Nat
 ro:Bool
def af:List (Nat×AV)→Nat→AV
 | [],_=>.u
 | (k,x)::r,d=>if k=d then x else af r d
def aq:List (Nat×List AV)→Nat→Option (List AV)
 | [],_=>none
 | (k,x)::r,d=>if k=d then some x else aq r d
def fV:List (Nat×List AV)→Nat→List AV→List (Nat×List AV)
 | [],_,_=>[]
 | (k,x)::r,d,y=>if k=d then (k,y)::r else (k,x)::fV r d y
def aj(hp:HP)(k:Key)(cs:List AV):HP:=fun k'=>if k'=k then some cs else hp k'
def St.ba(st:St)(d:Nat)(x:AV):St:={st with fr:=(d,x)::st.fr}
def St.box(dp:Nat)(st:St)(k:Key):Option (List AV):=if k.dp=dp then aq st.bx k.d else st.hp k
def St.au(dp:Nat)(st:St)(k:Key)(cs:List AV):St:=
 if k.dp=dp then {st with bx:=fV st.bx k.d cs} else {st with hp:=aj st.hp k cs}
def St.az(st:St)(pl:Pl):St:={st with fr:=st.fr.map fun x=>(x.1,if x.2.dj pl=true then .u else x.2)}
def nQ:AV→Option Bool
 | .b x=>some x
 | _=>none
def vY:AV→Bool
 | .r _=>true
 | .v _ _ _=>true
 | .q _ _ _ _=>true
 | .w _ _ _=>true
 | .bp _ _ _=>true
 | .ag _ _=>true
 | _=>false
def St.rowAt(dp:Nat)(st:St):Pl→Option (TypeId×List AV)
 | .s d=>match af st.fr d with
  | .o t es=>some (t,es)
  | _=>none
 | .c k off=>match st.box dp k with
  | some cs=>match cs[off]? with
   | some (.o t es)=>some (t,es)
   | _=>none
  | none=>none
def St.putAt(dp:Nat)(st:St)(x:AV):Pl→Option St
 | .s d=>some (st.ba d x)
 | .c k off=>match st.box dp k with
  | some cs=>some (st.au dp k (cs.set off x))
  | none=>none
def Pl.en(E:Env):Pl→Bool
 | .s _=>true
 | .c k _=>decide (k.dp=E.dp)||!E.ro
inductive aA where
 | t (n:Nat)
 | c (x:AV)
def St.ev(st:St):aA→AV
 | .t n=>af st.fr n
 | .c x=>x
def St.elems(dp:Nat)(st:St):AV→Option (TypeId×List AV)
 | .l t es=>some (t,es)
 | .n=>some (0,[])
 | .o t es=>some (t,es)
 | .r pl=>st.rowAt dp pl
 | .v pl lo len=>match st.rowAt dp pl with
  | some (t,es)=>if lo+len≤es.length then some (t,(es.drop lo).take len) else none
  | none=>none
 | _=>none
def pick(n:Option Nat)(off:Nat)(cs:List AV):Option AV:=
 match n with
 | none=>cs[off]?
 | some m=>if off+m≤cs.length then some (.a ((cs.drop off).take m)) else none
def putCells(cs:List AV)(off:Nat)(ys:List AV):List AV:=cs.take off++ys++cs.drop (off+ys.length)
def yh(x:AV):List AV→AV
 | [y]=>y
 | _=>x
def tN(e:AV)(off:Nat)(ys:List AV):AV:=
 match e with
 | .a cs=>.a (putCells cs off ys)
 | x=>yh x ys
def nG(op:BinOp)(k:IntKind)(a b:Int):Option AV:=
 match op with
 | .add=>some (.i k (k.wrap (a+b)))
 | .sub=>some (.i k (k.wrap (a - b)))
 | .mul=>some (.i k (k.wrap (a*b)))
 | .quo=>if b=0 then none else some (.i k (k.wrap (a.tdiv b)))
 | .rem=>if b=0 then none else some (.i k (a.tmod b))
 | .eql=>some (.b (a==b))
 | .neq=>some (.b (a !=b))
 | .lss=>some (.b (decide (a<b)))
 | .leq=>some (.b (decide (a≤b)))
 | .gtr=>some (.b (decide (b<a)))
 | .geq=>some (.b (decide (b≤a)))
 | .or=>some (.i k (if b>a then b else a))
 | _=>none
def kX(op:BinOp)(bl:Bool)(x y:AV):Option AV:=
 match x,y with
 | .i k a,.i k' b=>if k=k' then nG op k a b else none
 | .b a,.b b=>if bl then match op with
  | .eql=>some (.b (a==b))
  | .neq=>some (.b (!(a==b)))
  | _=>none
  else none
 | .s a,.s b=>match op with
  | .add=>if a.length+b.length≤4611686018427387904 then some (.s (a++b)) else none
  | .eql=>some (.b (a==b))
  | .neq=>some (.b (!(a==b)))
  | _=>none
 | _,_=>none
inductive kv where
 | mv (x:aA)
 | as (x:aA)
 | pk (c x y:aA)
 | bx (x:aA)
 | al (zs:List AV)
 | ld (n:Option Nat) (x:aA)
 | st (n:Nat) (x y:aA)
 | fa (off:Nat) (x:aA)
 | fd (n:Option Nat) (off:Nat) (x:aA)
 | ia (sz:Nat) (arr:Option Nat) (x i:aA)
 | bo (op:BinOp) (bl:Bool) (x y:aA)
 | no (x:aA)
 | cv (k:IntKind) (x:aA)
 | ae (ks:List Nat) (ng:Bool) (x y:aA)
 | bs (t sz:Nat) (es:List aA)
 | bd (zs:List AV) (fs:List (Nat×Nat×aA))
 | ms (t sz:Nat) (by_:Nat) (x:AV) (n:aA)
 | sl (t sz:Nat) (x:aA) (lo hi:Option aA)
 | ex (x:aA) (i:Nat)
 | mf (f:FuncId) (caps:List aA)
 | ca (m:Nat) (f:FuncId) (args:List aA)
 | cf (m:Nat) (x:aA) (args:List aA)
 | c2 (f:FuncId) (args:List aA)
 | d2 (x:aA) (args:List aA)
 | c3 (f:FuncId) (args:List aA)
 | d3 (x:aA) (args:List aA)
 | cn (f:FuncId) (args:List aA)
 | cr (t:Nat) (f:FuncId) (args:List aA)
 | ln (str:Bool) (x:aA)
 | ap (t sz:Nat) (by_:Nat) (x y:aA)
 | nc (x:aA)
 | ch (f:FuncId) (args:List aA) (sl dl ow:List Nat)
 | ck (f:FuncId) (args:List aA)
 | bg (zs:List AV) (fs:List (Nat×Nat×aA))
 | bxg (x:aA)
 | lk (n:Option Nat) (x y:aA) (lv:Bool)
structure cV where
 d:Option Nat
 o:kv
 g:Option (Nat×Bool):=none
 fz:Bool:=false
structure aY where
 p:cV
 lt:Bool
 vw:List Nat
 vb:List Nat
 vh:Bool
 cs:List Nat
 nk:List Nat
 nb:List Nat
inductive aR where
 | ret (x:AV)
 | new (cs:List AV)
inductive aE where
 | nrm
 | ex (id:Nat)
 | ret
inductive qJ where
 | own (d:Nat) (t:TypeId)
 | fz (d:Nat)
 | ownC (d off:Nat) (t:TypeId)
 | fzC (d off:Nat)
 | fzB (d:Nat) (agg:Bool)
 | vM (d off nd sz:Nat)
 | unp (d off:Nat)
inductive AC where
 | sk
 | rg (pre:List qJ) (ops:List cV) (kf kb:List Nat)
 | dg (pre:List qJ) (mks:List Nat) (ops:List aY) (kf kb:List Nat)
 | sq (x y:AC)
 | ite (c:aA) (x y:AC)
 | bl (id:Nat) (x:AC)
 | lp (x:AC)
 | ex (id:Nat)
 | rt
 | kp (kf kb:List Nat) (x:AC)
 | bad
 | ru (g:aA) (x:Nat) (y b:AC)
inductive RV where
 | t (n:Nat)
 | c (n:Nat) (sz:Option Nat)
structure a8 where
 code:AC
 res:List RV
abbrev kY:=FuncId→Option a8
abbrev bL:=FuncId→List AV→Option AV
abbrev Rec:=Env→FuncId→List AV→HP→Option (aR×HP)
def chunks(sz:Nat):Nat→List AV→List AV
 | 0,_=>[]
 | n+1,cs=>(if sz=1 then cs.headD .u else .a (cs.take sz))::chunks sz n (cs.drop sz)
def qK(d:Nat):TypeId:=if 1000000≤d then (d - 1000000) / 1000 else 0
def St.eI(dp:Nat)(st:St)(x:AV):Option (AV×List TypeId):=
 match x with
 | .o t es=>some (.l t es,[t])
 | .r pl=>(st.rowAt dp pl).bind fun r=>some (.l r.1 r.2,[r.1])
 | .v pl lo len=>(st.rowAt dp pl).bind fun r=>if lo+len≤r.2.length then some (.l r.1 ((r.2.drop lo).take len),[r.1]) else none
 | .w _ t x=>some (x,[t])
 | .sp k o n sz=>(st.box dp k).bind fun cs=>if (decide (1000000≤k.d)&&AV.aO cs&&decide (0<sz)&&decide (o+n*sz≤cs.length))=true then some (.l 0 (chunks sz n (cs.drop o)),[(k.d - 1000000) / 1000]) else none
 | x=>if x.pure then some (x,[]) else none
def St.cI(dp:Nat)(st:St):List AV→Option (List AV×List TypeId)
 | []=>some ([],[])
 | x::xs=>(st.eI dp x).bind fun y=>(st.cI dp xs).bind fun ys=>some (y.1::ys.1,y.2++ys.2)
def bE(R:Rec)(Ω:bL)(E:Env)(st:St)(m:Nat)(f:FuncId)(args:List AV):Option (AV×St):=
 match m with
 | 0=>(st.cI E.dp args).bind fun ys=>(R ⟨0,false⟩ f ys.1 (fun _=>none)).bind fun r=>match r.1 with
  | .ret x=>if x.pure&&(ys.2.isEmpty||x.off ys.2) then some (x,st) else none
  | .new _=>none
 | 1=>(st.cI E.dp args).bind fun ys=>(Ω f ys.1).bind fun x=>if x.pure&&(ys.2.isEmpty||x.off ys.2) then some (x,st) else none
 | _=>none
def ka:AV→Bool
 | .r (.c _ _)=>true
 | .v (.c _ _) _ _=>true
 | .q (.c _ _) _ _ _=>true
 | _=>false
def da(dp:Nat)(hp:HP):List (Nat×List AV)→List (Nat×List AV)
 | []=>[]
 | (d,_)::r=>match hp ⟨dp,d⟩ with
  | some cs=>(d,cs)::da dp hp r
  | none=>da dp hp r
def St.back(dp:Nat)(st:St)(hp:HP):St:=
 ⟨st.fr.map fun x=>(x.1,if ka x.2=true then .u else x.2),da dp hp st.bx,fun k=>if k.dp<dp then hp k else none⟩
def AV.iE:AV→Bool
 | .o _ _=>true
 | .r _=>true
 | .v _ _ _=>true
 | x=>x.pure
def cm(R:Rec)(Ω:bL)(E:Env)(st:St)(f:FuncId)(args:List AV):Option (AV×St):=
 if args.all AV.iE=true then bE R Ω E st 0 f args
 else if (!E.ro&&args.all AV.copy&&st.bx.all fun y=>AV.bN E.dp y.2)=true then
  (R ⟨E.dp+1,false⟩ f args (fun k=>st.box E.dp k)).bind fun r=>match r.1 with
   | .ret x=>some (x,st.back E.dp r.2)
   | .new _=>none
 else none
def iu(R:Rec)(E:Env)(st:St)(f:FuncId)(args:List AV):Option (AV×St):=
 if (args.all AV.copy&&st.bx.all fun y=>AV.bN E.dp y.2)=true then
  (R ⟨E.dp+1,true⟩ f args (fun k=>st.box E.dp k)).bind fun r=>match r.1 with
   | .ret x=>if x.pure=true then some (x,st) else none
   | .new _=>none
 else none
def fx(bx:List (Nat×List AV))(d:Nat):Bool:=(aq bx d).isNone&&decide (d<1000000)
def nh(dp:Nat)(st:St)(d:Nat):Bool:=fx st.bx d&&st.fr.all (fun y=>y.2.aW ⟨dp,d⟩)&&st.bx.all (fun y=>AV.bR ⟨dp,d⟩ y.2)
def sT(R:Rec)(E:Env)(st:St)(d:Nat)(f:FuncId)(args:List AV):Option (AV×St):=
 if (!E.ro&&args.all AV.copy&&st.bx.all fun y=>AV.bN E.dp y.2)=true then
  (R ⟨E.dp+1,false⟩ f args (fun k=>st.box E.dp k)).bind fun r=>match r.1 with
   | .ret _=>none
   | .new cs=>if nh E.dp (st.back E.dp r.2) d=true then some (.p ⟨E.dp,d⟩ 0,{(st.back E.dp r.2) with bx:=(d,cs)::(st.back E.dp r.2).bx}) else none
 else none
def nR:AV→Bool
 | .o _ _=>true
 | x=>x.pure
def sU(R:Rec)(E:Env)(st:St)(d:Nat)(f:FuncId)(args:List AV):Option (AV×St):=
 if AV.aO args=true then (R ⟨E.dp+1,false⟩ f args (fun _=>none)).bind fun r=>match r.1 with
  | .ret _=>none
  | .new cs=>if (cs.all nR&&nh E.dp st d)=true then some (.p ⟨E.dp,d⟩ 0,{st with bx:=(d,cs)::st.bx}) else none
 else none
def zB(Ω:bL)(st:St)(d:Nat)(t:TypeId)(f:FuncId)(args:List AV):Option (AV×St):=
 if AV.aO args=true then (Ω f args).bind fun x=>match x with
  | .o t' []=>if t'=t then some (.o t [],st.az (.s d)) else none
  | _=>none
 else none
mutual
def AV.lO(t:TypeId):AV→Bool
 | .a cs=>AV.pr t cs
 | .tp cs=>AV.pr t cs
 | .f _ cs=>AV.pr t cs
 | .ifc _ x=>AV.lO t x
 | .l t' es=>es.isEmpty||(t'==t&&AV.pr t es)
 | .e _ _=>false
 | _=>true
def AV.pr(t:TypeId):List AV→Bool
 | []=>true
 | x::xs=>AV.lO t x&&AV.pr t xs
end
def cB(dp:Nat)(st:St)(y:AV)(lv:Bool):Option Key:=match y with
 | .p k off=>if lv=true then (match (st.box dp k).bind (fun cs=>cs[off]?) with
  | some (.p k2 _)=>some k2
  | _=>none) else some k
 | _=>none
def uU(dp:Nat)(ow:List Nat):AV→Bool
 | .p k _=>decide (k.dp=dp)&&ow.contains k.d
 | _=>false
def et(dp:Nat)(st:St)(sl dl ow:List Nat)(k:Key):Bool:=
 (sl.any fun n=>cB dp st (af st.fr n) false==some k)||(dl.any fun n=>!uU dp ow (af st.fr n)&&cB dp st (af st.fr n) true==some k)||(decide (k.dp=dp)&&ow.contains k.d)
def cg(dp:Nat)(st:St)(sl dl ow:List Nat)(hp:HP):HP:=fun k=>if et dp st sl dl ow k=true then st.box dp k else hp k
def uV(dp:Nat)(st:St)(sl dl ow:List Nat):HP:=fun k=>if et dp st sl dl ow k=true then none else st.box dp k
def gJ(hid:Key→Bool):AV→Bool
 | .r (.c k _)=>!hid k
 | .v (.c k _) _ _=>!hid k
 | .q (.c k _) _ _ _=>!hid k
 | _=>false
def vZ(bx:List (Nat×List AV))(g:Nat→List AV→Bool):Bool:=bx.all fun y=>g y.1 ((aq bx y.1).getD [])
def tO(dp:Nat):Option Key→Bool
 | some k=>decide (k.dp≤dp)
 | none=>false
def St.bh(dp:Nat)(st:St)(hp:HP):St:=⟨st.fr,da dp hp st.bx,fun k=>if k.dp<dp then hp k else none⟩
def qB(R:Rec)(E:Env)(st:St)(f:FuncId)(args:List AV)(sl dl ow:List Nat):Option (AV×St):=
 if (!E.ro&&args.all AV.copy&&vZ st.bx (fun _ cs=>AV.bN E.dp cs)&&(st.fr.all fun y=>!gJ (et E.dp st sl dl ow) y.2)&&sl.all (fun n=>tO E.dp (cB E.dp st (af st.fr n) false))&&dl.all (fun n=>!uU E.dp ow (af st.fr n)&&tO E.dp (cB E.dp st (af st.fr n) true)))=true then
  (R ⟨E.dp+1,false⟩ f args (uV E.dp st sl dl ow)).bind fun r=>match r.1 with
   | .ret x=>if (x.pure&&vZ (st.bh E.dp (cg E.dp st sl dl ow r.2)).bx fun d cs=>ow.contains d||ow.all fun h=>AV.bR ⟨E.dp,h⟩ cs)=true then some (x,st.bh E.dp (cg E.dp st sl dl ow r.2)) else none
   | .new _=>none
 else none
def IC(g:Nat)(t:TypeId):AV→AV
 | .i k n=>.i k n
 | .b x=>.b x
 | x=>.w g t x
def nj:AV→Option Nat
 | .i _ n=>if 0≤n then some n.toNat else none
 | _=>none
def jB(st:St)(x:Option aA)(dflt:Nat):Option Nat:=
 match x with
 | none=>some dflt
 | some y=>nj (st.ev y)
def consume(E:Env)(st:St)(t:TypeId):aA→Option (List AV×St)
 | .c .n=>some ([],st)
 | .c _=>none
 | .t m=>match af st.fr m with
  | .n=>some ([],st)
  | .o t' es=>if t'=t then some (es,st.ba m .u) else none
  | .r pl=>if pl.en E then (st.rowAt E.dp pl).bind fun r=>if r.1=t then (st.putAt E.dp .u pl).bind fun st'=>some (r.2,st') else none else none
  | .v pl lo len=>if pl.en E&&lo==0 then
    (st.rowAt E.dp pl).bind fun r=>if len≤r.2.length∧r.1=t then (st.putAt E.dp .u pl).bind fun st'=>some (r.2.take len,st') else none
   else none
  | _=>none
def elemAt(sz:Nat)(st:St)(e:Option AV)(x:AV→AV):Option (AV×St):=
 e.bind fun e=>if e.nc=sz then some (x e,st) else none
def bytesOf:List AV→Option (List UInt8)
 | []=>some []
 | .i .u8 n::r=>if 0≤n∧n<256 then (bytesOf r).map (UInt8.ofNat n.toNat::·) else none
 | _=>none
def fi:List Nat→List AV→List AV→Option Bool
 | [],[],[]=>some true
 | 0::ks,.b m::xs,.b n::ys=>(fi ks xs ys).map fun r=>(m==n)&&r
 | 1::ks,.i k m::xs,.i k' n::ys=>if k=k' then (fi ks xs ys).map fun r=>(m==n)&&r else none
 | 2::ks,.s m::xs,.s n::ys=>(fi ks xs ys).map fun r=>(m==n)&&r
 | _,_,_=>none
def Ec:AV→Bool
 | .u=>true
 | _=>false
def rowOf(st:St):aA→Option Nat
 | .t m=>match af st.fr m with
  | .o _ _=>some m
  | _=>none
 | .c _=>none
def Ff(st:St)(n:Nat)(f:Nat×Nat×aA):Bool:=
 (match rowOf st f.2.2 with
  | some _=>f.2.1==1
  | none=>(st.ev f.2.2).copy&&(st.ev f.2.2).nc==f.2.1&&(st.ev f.2.2).cl.all AV.one)&&decide (f.1+f.2.1≤n)
def pv(st:St)(acc:List AV×List (Nat×Nat))(f:Nat×Nat×aA):List AV×List (Nat×Nat):=
 match rowOf st f.2.2 with
 | some m=>(putCells acc.1 f.1 [.u],(f.1,m)::acc.2.filter fun q=>q.1 !=f.1)
 | none=>(putCells acc.1 f.1 (st.ev f.2.2).cl,acc.2.filter fun q=>!(decide (f.1≤q.1)&&decide (q.1<f.1+f.2.1)))
def rY(d:Nat):St→List (Nat×Nat)→Option St
 | st,[]=>some st
 | st,(off,m)::rs=>match af st.fr m with
  | .o t es=>(aq st.bx d).bind fun cs=>match cs[off]? with
   | some .u=>rY d {(st.ba m .u) with bx:=fV st.bx d (cs.set off (.o t es))} rs
   | _=>none
  | _=>none
def execOp(R:Rec)(Ω:bL)(E:Env)(st:St)(d:Option Nat):kv→Option (AV×St)
 | .mv x=>match st.ev x with
  | .o _ _=>match x with
   | .t n=>some (.r (.s n),st)
   | .c _=>none
  | y=>some (y,st)
 | .as x=>match x with
  | .c y=>if y.pure then some (y,st) else none
  | .t n=>match af st.fr n with
   | .o t es=>d.bind fun d=>some (.o t es,(st.ba n .u).az (.s d))
   | .v pl lo len=>d.bind fun d=>
    if pl= .s d&&lo==0 then (st.rowAt E.dp pl).bind fun r=>if len≤r.2.length then some (.o r.1 (r.2.take len),st.az (.s d)) else none
    else some (.v pl lo len,st)
   | y=>if y.copy||vY y then some (y,st) else none
 | .pk c x y=>(nQ (st.ev c)).bind fun z=>
  if z=true then (if (st.ev x).copy then some (st.ev x,st) else none) else (if (st.ev y).copy then some (st.ev y,st) else none)
 | .bx x=>d.bind fun d=>
  let cs:=(st.ev x).cl
  if (st.ev x).copy&&cs.all AV.one&&(st.ev x).deep E.dp&&fx st.bx d&&st.fr.all (fun y=>y.2.aW ⟨E.dp,d⟩)&&st.bx.all (fun y=>AV.bR ⟨E.dp,d⟩ y.2)
  then some (.p ⟨E.dp,d⟩ 0,{st with bx:=(d,cs)::st.bx}) else none
 | .al zs=>d.bind fun d=>
  if fx st.bx d&&st.fr.all (fun y=>y.2.aW ⟨E.dp,d⟩)&&st.bx.all (fun y=>AV.bR ⟨E.dp,d⟩ y.2)
  then some (.p ⟨E.dp,d⟩ 0,{st with bx:=(d,zs)::st.bx}) else none
 | .ld n x=>match st.ev x with
  | .p k off=>(st.box E.dp k).bind fun cs=>(pick n off cs).bind fun y=>match y with
   | .o _ _=>some (.r (.c k off),st)
   | y=>if y.copy then some (y,st) else none
  | .e x off=>(pick n off x.cl).bind fun y=>some (y,st)
  | .q pl i sz off=>(st.rowAt E.dp pl).bind fun r=>(r.2[i]?).bind fun e=>if e.nc=sz then (pick n off e.cl).bind fun y=>some (y,st) else none
  | _=>none
 | .st n x y=>match st.ev x with
  | .p k off=>
   if (Pl.c k off).en E then
    (st.box E.dp k).bind fun cs=>match st.ev y with
    | .o t es=>match y with
     | .t m=>if n==1&&decide (off<cs.length) then some (.u,(((st.ba m .u).az (.c k off)).au E.dp k (cs.set off (.o t es)))) else none
     | _=>none
    | .v pl lo len=>
     if pl= .c k off&&lo==0&&n==1 then (st.rowAt E.dp pl).bind fun r=>if len≤r.2.length then some (.u,(st.az (.c k off)).au E.dp k (cs.set off (.o r.1 (r.2.take len)))) else none
     else none
    | y=>if y.copy&&y.nc==n&&y.cl.all AV.one&&y.deep k.dp&&decide (off+n≤cs.length) then some (.u,st.au E.dp k (putCells cs off y.cl)) else none
   else none
  | .q pl i sz off=>
   if pl.en E then
    (st.rowAt E.dp pl).bind fun r=>(r.2[i]?).bind fun e=>
     if e.nc==sz&&(st.ev y).pure&&(st.ev y).nc==n&&(st.ev y).cl.all AV.one&&decide (off+n≤sz) then
      (st.putAt E.dp (.o r.1 (r.2.set i (tN e off (st.ev y).cl))) pl).bind fun st'=>some (.u,st')
     else none
   else none
  | _=>none
 | .fa off x=>match st.ev x with
  | .p k o=>some (.p k (o+off),st)
  | .e y o=>some (.e y (o+off),st)
  | .q pl i sz o=>(st.rowAt E.dp pl).bind fun r=>if i<r.2.length then some (.q pl i sz (o+off),st) else none
  | _=>none
 | .fd n off x=>match st.ev x with
  | .a cs=>(pick n off cs).bind fun y=>some (y,st)
  | _=>none
 | .ia sz arr x i=>(nj (st.ev i)).bind fun j=>match arr with
  | some len=>if j<len then
    match st.ev x with
    | .p k o=>some (.p k (o+j*sz),st)
    | .e y o=>some (.e y (o+j*sz),st)
    | _=>none
   else none
  | none=>match st.ev x with
   | .l _ es=>elemAt sz st es[j]? fun e=>.e e 0
   | .o _ es=>match x with
    | .t m=>elemAt sz st es[j]? fun _=>.q (.s m) j sz 0
    | _=>none
   | .r pl=>(st.rowAt E.dp pl).bind fun r=>elemAt sz st r.2[j]? fun _=>.q pl j sz 0
   | .v pl lo len=>if j<len then (st.rowAt E.dp pl).bind fun r=>if lo+len≤r.2.length then elemAt sz st r.2[lo+j]? fun _=>.q pl (lo+j) sz 0 else none else none
   | .sp k o n s=>if j<n∧s=sz then some (.p k (o+j*sz),st) else none
   | _=>none
 | .bo op bl x y=>(kX op bl (st.ev x) (st.ev y)).bind fun r=>some (r,st)
 | .no x=>(nQ (st.ev x)).bind fun y=>some (.b (!y),st)
 | .cv k x=>match st.ev x with
  | .i _ n=>some (.i k (k.wrap n),st)
  | _=>none
 | .ae ks ng x y=>match st.ev x,st.ev y with
  | .a xs,.a ys=>(fi ks xs ys).bind fun r=>some (.b (if ng then !r else r),st)
  | _,_=>none
 | .bs t sz es=>d.bind fun d=>
  let vs:=es.map st.ev
  if vs.all (fun y=>y.pure&&y.cl.all AV.one&&y.nc==sz) then some (.o t vs,st.az (.s d)) else none
 | .bd zs fs=>
  if fs.all (fun f=>(st.ev f.2.2).copy&&(st.ev f.2.2).nc==f.2.1&&(st.ev f.2.2).cl.all AV.one&&decide (f.1+f.2.1≤zs.length)) then
   some (.a (fs.foldl (fun cs f=>putCells cs f.1 (st.ev f.2.2).cl) zs),st) else none
 | .ms t _ by_ x n=>d.bind fun d=>(nj (st.ev n)).bind fun n=>
  if n*by_≤140737488355328&&decide (n≤maxLen) then some (.o t (List.replicate n x),st.az (.s d)) else none
 | .sl t sz x lo hi=>match st.ev x with
  | .s l=>(jB st lo 0).bind fun a=>(jB st hi l.length).bind fun b=>if t==0&&decide (a≤b)&&decide (b≤l.length) then some (.s ((l.take b).drop a),st) else none
  | .l t' es=>(jB st lo 0).bind fun a=>(jB st hi es.length).bind fun b=>if t !=0&&es.all (fun e=>e.nc==sz)&&decide (a≤b)&&decide (b≤es.length) then some (.l t' ((es.take b).drop a),st) else none
  | .r pl=>(st.rowAt E.dp pl).bind fun r=>(jB st lo 0).bind fun a=>(jB st hi r.2.length).bind fun b=>
   if t !=0&&r.1==t&&decide (a≤b)&&decide (b≤r.2.length) then some (.v pl a (b - a),st) else none
  | _=>none
 | .ex x i=>match st.ev x with
  | .tp vs=>(vs[i]?).bind fun y=>some (y,st)
  | _=>none
 | .mf f caps=>if AV.jA (caps.map st.ev) then some (.f f (caps.map st.ev),st) else none
 | .ca m f args=>bE R Ω E st m f (args.map st.ev)
 | .cf m x args=>match st.ev x with
  | .f f caps=>bE R Ω E st m f (args.map st.ev++caps)
  | _=>none
 | .c2 f args=>cm R Ω E st f (args.map st.ev)
 | .d2 x args=>match st.ev x with
  | .f f caps=>cm R Ω E st f (args.map st.ev++caps)
  | _=>none
 | .c3 f args=>iu R E st f (args.map st.ev)
 | .d3 x args=>match st.ev x with
  | .f f caps=>iu R E st f (args.map st.ev++caps)
  | _=>none
 | .cn f args=>d.bind fun d=>sT R E st d f (args.map st.ev)
 | .cr t f args=>d.bind fun d=>zB Ω st d t f (args.map st.ev)
 | .ln str x=>match st.ev x with
  | .s l=>if str then some (.i .i64 l.length,st) else none
  | .sp _ _ n _=>if str then none else some (.i .i64 n,st)
  | y=>if str then none else (st.elems E.dp y).bind fun r=>some (.i .i64 r.2.length,st)
 | .ap t sz by_ x y=>d.bind fun d=>(st.elems E.dp (st.ev y)).bind fun ys=>(consume E st t x).bind fun r=>
  if ys.2.all (fun e=>e.nc==sz)&&decide ((r.1.length+ys.2.length)*by_≤140737488355328)&&decide (r.1.length+ys.2.length≤maxLen)
  then some (.o t (r.1++ys.2),r.2.az (.s d)) else none
 | .nc x=>match st.ev x with
  | .p k o=>some (.p k o,st)
  | .e y o=>some (.e y o,st)
  | .q _ _ _ _=>none
  | .f g caps=>some (.f g caps,st)
  | _=>none
 | .ch f args sl dl ow=>qB R E st f (args.map st.ev) sl dl ow
 | .ck f args=>d.bind fun d=>sU R E st d f (args.map st.ev)
 | .bg zs fs=>if fs.all (Ff st zs.length)=true then some (.ag (fs.foldl (pv st) (zs,[])).1 (fs.foldl (pv st) (zs,[])).2,st) else none
 | .bxg x=>d.bind fun d=>match st.ev x with
  | .ag cs rs=>if (cs.all (fun c=>c.copy||Ec c)&&AV.bN E.dp cs&&nh E.dp st d)=true then (rY d {st with bx:=(d,cs)::st.bx} rs).map fun st'=>(.p ⟨E.dp,d⟩ 0,st') else none
  | _=>none
 | .lk n x y lv=>match st.ev x with
  | .p k off=>if cB E.dp st (st.ev y) lv=some k then (st.box E.dp k).bind fun cs=>(pick n off cs).bind fun y=>match y with
    | .o _ _=>some (.r (.c k off),st)
    | y=>if y.copy then some (y,st) else none
   else none
  | _=>none
def put(st:St)(d:Option Nat)(x:AV):St:=
 match d with
 | some d=>st.ba d x
 | none=>st
def uW:AV→Bool→Option Bool
 | .b x,want=>some (x==want)
 | .sk,_=>some false
 | _,_=>none
def dk:Bool→AV→AV
 | true,.o t es=>.l t es
 | _,x=>x
def eL(R:Rec)(Ω:bL)(E:Env)(st:St)(g:cV):Option St:=
 match g.g with
 | none=>(execOp R Ω E st g.d g.o).bind fun r=>some (put r.2 g.d (dk g.fz r.1))
 | some (j,want)=>(uW (af st.fr j) want).bind fun y=>
  if y=true then (execOp R Ω E st g.d g.o).bind fun r=>some (put r.2 g.d (dk g.fz r.1)) else some (put st g.d .sk)
def iv(R:Rec)(Ω:bL)(E:Env):St→List cV→Option St
 | st,[]=>some st
 | st,g::gs=>(eL R Ω E st g).bind fun st'=>iv R Ω E st' gs
def fW(fr:List (Nat×AV))(ks:List Nat):List (Nat×AV):=ks.map fun k=>(k,af fr k)
def bA(bx:List (Nat×List AV)):List Nat→List (Nat×List AV)
 | []=>[]
 | k::ks=>match aq bx k with
  | some cs=>(k,cs)::bA bx ks
  | none=>bA bx ks
def St.aD(st:St)(kf kb:List Nat):St:={st with fr:=fW st.fr kf,bx:=bA st.bx kb}
def view(p:aY)(s:St):St:=⟨fW s.fr p.vw,bA s.bx p.vb,if p.vh=true then s.hp else fun _=>none⟩
def uX:AV→Bool
 | .o _ _=>true
 | _=>false
def fA(v:St):kv→Bool
 | .as x=>(v.ev x).copy
 | .mv x=>!Ec (v.ev x)
 | .ap _ _ _ x _=>match v.ev x with
  | .o _ _=>true
  | .n=>true
  | .r (.c _ _)=>true
  | _=>false
 | .st _ x y=>((v.ev y).copy||uX (v.ev y))&&match v.ev x with
  | .p _ _=>true
  | _=>false
 | _=>true
def zC:AV→Bool
 | .r (.c _ _)=>true
 | _=>false
def dR(dp:Nat)(p:aY)(v:St):Bool:=
 match p.p.o with
 | .st _ x y=>!uX (v.ev y)||(match v.ev x with
  | .p k _=>decide (k.dp=dp)&&p.vb==[k.d]&&(match y with
   | .t m=>p.cs==[m]
   | .c _=>false)
  | _=>false)
 | .ap _ _ _ x _=>zC (v.ev x)==(p.cs.length==2)
 | _=>true
def jC(k:Key):AV→Bool
 | .r (.c k' _)=>decide (k'=k)
 | .v (.c k' _) _ _=>decide (k'=k)
 | .q (.c k' _) _ _ _=>decide (k'=k)
 | _=>false
def oa(dp:Nat)(mk:List Nat)(x:AV):Bool:=mk.all fun h=>x.aW ⟨dp,h⟩&&!x.dj (.s h)
def okB(dp:Nat)(nb:List Nat)(x:AV):Bool:=(nb.all fun h=>!jC ⟨dp,h⟩ x)&&(!nb.contains 1000000||!ka x)
structure aL where
 fr:List (Nat×AV)
 nb:List (Nat×List AV)
 wb:List (Nat×List AV)
 hp:Option HP
def lP(bx:List (Nat×List AV)):List (Nat×List AV)→List (Nat×List AV)
 | []=>bx
 | (b,cs)::r=>fV (lP bx r) b cs
def aL.app(q:aL)(s:St):St:=⟨q.fr++s.fr,q.nb++lP s.bx q.wb,q.hp.getD s.hp⟩
def fj(d:Option Nat)(x:AV):List (Nat×AV):=
 match d with
 | some d=>[(d,x)]
 | none=>[]
def effect(p:aY)(r:AV×St):aL:=
 match p.p.o with
 | .al zs=>match p.p.d with
  | some d=>⟨[(d,r.1)],[(d,zs)],[],none⟩
  | none=>⟨[],[],[],none⟩
 | .ck _ _=>match p.p.d with
  | some d=>⟨[(d,r.1)],(match aq r.2.bx d with
   | some cs=>[(d,cs)]
   | none=>[]),[],none⟩
  | none=>⟨[],[],[],none⟩
 | .st _ _ _=>⟨p.cs.map (fun m=>(m,.u)),[],bA r.2.bx p.vb,if p.vh=true then some r.2.hp else none⟩
 | .ap _ _ _ _ _=>⟨fj p.p.d (dk p.p.fz r.1)++p.cs.map (fun m=>(m,.u)),[],if (p.cs.length==2)=true then bA r.2.bx p.vb else [],if (p.cs.length==2&&p.vh)=true then some r.2.hp else none⟩
 | _=>⟨fj p.p.d (dk p.p.fz r.1)++p.cs.map (fun m=>(m,.u)),[],[],none⟩
def fX(R:Rec)(Ω:bL)(E:Env)(p:aY)(v:St):Option aL:=
 if (fA v p.p.o&&dR E.dp p v)=true then (execOp R Ω E v p.p.d p.p.o).bind fun r=>if (oa E.dp p.nk r.1&&okB E.dp p.nb r.1)=true then some (effect p r) else none else none
def bS(R:Rec)(Ω:bL)(E:Env)(p:aY)(s:St):Option aL:=
 match p.p.g with
 | none=>fX R Ω E p (view p s)
 | some (j,want)=>(uW (af s.fr j) want).bind fun y=>if y=true then fX R Ω E p (view p s) else some ⟨fj p.p.d .sk,[],[],none⟩
def bT(R:Rec)(Ω:bL)(E:Env)(s:St)(p:aY):Option St:=
 if p.lt=true then (bS R Ω E p s).bind fun q=>some (q.app s) else eL R Ω E s p.p
def im(R:Rec)(Ω:bL)(E:Env):St→List aY→Option St
 | st,[]=>some st
 | st,p::ps=>(bT R Ω E st p).bind fun st'=>im R Ω E st' ps
def oJ:kv→List Nat→Bool
 | .st _ _ _,cs=>!cs.isEmpty
 | _,_=>false
def kx(dp:Nat)(st:St)(p:aY):Bool:=!oJ p.p.o p.cs||p.vb.all fun h=>st.fr.all fun y=>!jC ⟨dp,h⟩ y.2
def ob(dp:Nat)(st:St)(h:Nat):Bool:=(aq st.bx h).isNone&&st.fr.all (fun y=>y.2.aW ⟨dp,h⟩&&!y.2.dj (.s h))&&st.bx.all (fun y=>AV.bR ⟨dp,h⟩ y.2)
def v7(dp:Nat)(st:St)(t d:Nat):Bool:=((aq st.bx d).isNone&&decide (1000000≤d)&&decide ((d - 1000000) / 1000=t))&&st.fr.all (fun y=>y.2.aW ⟨dp,d⟩)&&st.bx.all (fun y=>AV.bR ⟨dp,d⟩ y.2)
def dJ(E:Env)(st:St):qJ→Option St
 | .own d t=>match af st.fr d with
  | .n=>some ((st.az (.s d)).ba d (.o t []))
  | .o _ _=>some st
  | _=>none
 | .fz d=>match af st.fr d with
  | .o t es=>some (st.ba d (.l t es))
  | _=>none
 | .ownC d off t=>match af st.fr d with
  | .p k o=>if (Pl.c k (o+off)).en E then
    (st.box E.dp k).bind fun cs=>match cs[o+off]? with
     | some .n=>some ((st.az (.c k (o+off))).au E.dp k (cs.set (o+off) (.o t [])))
     | some (.o _ _)=>some st
     | _=>none
   else none
  | _=>none
 | .fzC d off=>match af st.fr d with
  | .p k o=>if (Pl.c k (o+off)).en E then
    (st.box E.dp k).bind fun cs=>match cs[o+off]? with
     | some (.o t es)=>some (st.au E.dp k (cs.set (o+off) (.l t es)))
     | some (.l _ _)=>some st
     | some (.f _ _)=>some (st.au E.dp k (cs.set (o+off) .u))
     | some .nf=>some st
     | _=>none
   else none
  | _=>none
 | .fzB d agg=>match af st.fr d with
  | .p k 0=>if k.dp=E.dp then
    (aq st.bx k.d).bind fun cs=>if AV.aO cs then
      if agg then some {(st.ba d (.e (.a cs) 0)) with bx:=st.bx.filter fun y=>y.1 !=k.d}
      else match cs with
       | [c]=>some {(st.ba d (.e c 0)) with bx:=st.bx.filter fun y=>y.1 !=k.d}
       | _=>none
     else none
   else none
  | _=>none
 | .vM d off nd sz=>match af st.fr d with
  | .p k o=>if k.dp=E.dp then
    (aq st.bx k.d).bind fun cs=>match cs[o+off]? with
     | some (.o t es)=>if es.isEmpty=true then some (((st.au E.dp k (cs.set (o+off) .u)).az (.c k (o+off))).au E.dp k ((cs.set (o+off) .u).set (o+off) (.l t [])))
      else if (es.all (fun e=>e.nc==sz)&&v7 E.dp (st.au E.dp k (cs.set (o+off) .u)) t nd)=true then
       some ((({(st.au E.dp k (cs.set (o+off) .u)) with bx:=(nd,es.flatMap AV.cl)::(st.au E.dp k (cs.set (o+off) .u)).bx} : St).az (.c k (o+off))).au E.dp k ((cs.set (o+off) .u).set (o+off) (.sp ⟨E.dp,nd⟩ 0 es.length sz)))
      else none
     | some (.l _ _)=>some st
     | _=>none
   else none
  | _=>none
 | .unp d off=>match af st.fr d with
  | .p k o=>if k.dp=E.dp then
    (aq st.bx k.d).bind fun cs=>match cs[o+off]? with
     | some (.sp k2 0 n sz)=>if k2.dp=E.dp∧k2≠k then (aq st.bx k2.d).bind fun cs2=>
       if (AV.aO cs2&&decide (0<sz)&&decide (n*sz≤cs2.length))=true then
        some ((({st with bx:=st.bx.filter fun y=>y.1 !=k2.d} : St).az (.c k (o+off))).au E.dp k (cs.set (o+off) (.l (qK k2.d) (chunks sz n cs2))))
       else none
      else none
     | some (.l _ _)=>some st
     | _=>none
   else none
  | _=>none
def pa(E:Env):St→List qJ→Option St
 | st,[]=>some st
 | st,p::ps=>(dJ E st p).bind fun st'=>pa E st' ps
def St.jD(dp:Nat)(st:St):AV→Option AV
 | .o t es=>some (.l t es)
 | .r (.s d)=>(st.rowAt dp (.s d)).bind fun r=>some (.l r.1 r.2)
 | .r (.c k off)=>if k.dp=dp then (st.rowAt dp (.c k off)).bind fun r=>some (.l r.1 r.2) else none
 | .v (.s d) lo len=>(st.rowAt dp (.s d)).bind fun r=>if lo+len≤r.2.length then some (.l r.1 ((r.2.drop lo).take len)) else none
 | .w _ _ _=>none
 | .ag _ _=>none
 | .bp _ _ _=>none
 | x=>some x
def St.zD(dp:Nat)(st:St):List AV→Option (List AV)
 | []=>some []
 | x::xs=>(st.jD dp x).bind fun y=>(st.zD dp xs).bind fun ys=>some (y::ys)
def St.sE(E:Env)(st:St):RV→Option AV
 | .t n=>st.jD E.dp (af st.fr n)
 | .c n sz=>match af st.fr n with
  | .p k off=>if k.dp=E.dp then
    (aq st.bx k.d).bind fun cs=>(pick sz off cs).bind fun y=>match y with
     | .a ds=>(st.zD E.dp ds).bind fun ds=>some (.a ds)
     | y=>st.jD E.dp y
   else none
  | _=>none
def St.mW(E:Env)(st:St):List RV→Option (List AV)
 | []=>some []
 | x::xs=>(st.sE E x).bind fun y=>(st.mW E xs).bind fun ys=>some (y::ys)
def Ed:List AV→AV
 | [x]=>x
 | xs=>.tp xs
def St.result(E:Env)(st:St)(rs:List RV):Option AV:=
 (st.mW E rs).bind fun xs=>if AV.aO xs then some (Ed xs) else none
def St.nm(E:Env)(st:St):List RV→Option (List AV)
 | [.t n]=>match af st.fr n with
  | .p k 0=>if k.dp=E.dp then (aq st.bx k.d).bind fun cs=>if cs.all nR then some cs else none else none
  | _=>none
 | _=>none
def St.end_(E:Env)(st:St)(rs:List RV):Option aR:=
 match st.result E rs with
 | some x=>some (.ret x)
 | none=>(st.nm E rs).map .new
def iq:Nat→List AV→List (Nat×AV)
 | _,[]=>[]
 | i,x::xs=>(i,x)::iq (i+1) xs
def eM(G:kY)(X:Env→AC→St→Option (aE×St)):Rec:=fun E f args hp=>
 (G f).bind fun fn=>(X E fn.code ⟨iq 0 args,[],hp⟩).bind fun r=>match r.1 with
  | .ex _=>none
  | _=>(r.2.end_ E fn.res).bind fun x=>some (x,r.2.hp)
def pR(k:St→Option (aE×St))(r:aE×St):Option (aE×St):=
 match r.1 with
 | .nrm=>k r.2
 | e=>some (e,r.2)
def inBlock(id:Nat)(r:aE×St):Option (aE×St):=
 match r.1 with
 | .ex id'=>if id'=id then some (.nrm,r.2) else some (.ex id',r.2)
 | e=>some (e,r.2)
def qL:List AV→Option (List Int)
 | []=>some []
 | .i .i64 n::r=>(qL r).map (n::·)
 | _=>none
def qM(Ω:bL):AV→Option (List Int)
 | .f f [c]=>if (AV.f f [c]).copy=true then ((Ω f [.u,c]).bind fun x=>match x with
  | .l 0 es=>qL es
  | _=>none) else none
 | _=>none
def St.inner(dp:Nat)(st:St)(x:Nat)(n:Int):St:=⟨(x,.i .i64 n)::st.fr.map fun y=>(y.1,if y.2.copy=true then y.2 else .u),[],fun k=>st.box dp k⟩
def rounds(dp:Nat)(X:AC→St→Option (aE×St))(x:Nat)(y b:AC):List Int→St→Option (aE×St)
 | [],st=>some (.nrm,st)
 | n::ns,st=>if (st.bx.all fun z=>AV.bN dp z.2)=true then
   (X y (st.inner dp x n)).bind fun q=>match q.1 with
    | .nrm=>(X b q.2).bind fun r=>match r.1 with
     | .nrm=>rounds dp X x y b ns (st.back dp r.2.hp)
     | e=>some (e,st.back dp r.2.hp)
    | _=>none
  else none
def exec(G:kY)(Ω:bL):Nat→Env→AC→St→Option (aE×St)
 | 0,_,_,_=>none
 | n+1,E,c,st=>
  match c with
  | .sk=>some (.nrm,st)
  | .rg pre ops kf kb=>(pa E st pre).bind fun st1=>(iv (eM G (exec G Ω n)) Ω E st1 ops).bind fun st2=>some (.nrm,st2.aD kf kb)
  | .dg pre mks ops kf kb=>(pa E st pre).bind fun st1=>if (mks.all (ob E.dp st1)&&ops.all (kx E.dp st1))=true then
    (im (eM G (exec G Ω n)) Ω E st1 ops).bind fun st2=>some (.nrm,st2.aD kf kb) else none
  | .sq x y=>(exec G Ω n E x st).bind (pR fun st1=>exec G Ω n E y st1)
  | .ite c x y=>(nQ (st.ev c)).bind fun z=>if z=true then exec G Ω n E x st else exec G Ω n E y st
  | .bl id x=>(exec G Ω n E x st).bind (inBlock id)
  | .lp x=>(exec G Ω n E x st).bind (pR fun st1=>exec G Ω n E (.lp x) st1)
  | .ex id=>some (.ex id,st)
  | .rt=>some (.ret,st)
  | .kp kf kb x=>exec G Ω n E x (st.aD kf kb)
  | .bad=>none
  | .ru g x y b=>if E.ro=true then none else (qM Ω (st.ev g)).bind fun ns=>rounds E.dp (exec G Ω n ⟨E.dp+1,false⟩) x y b ns st
end Go.Proofs.Ytkkkkondjclcnaa.A
