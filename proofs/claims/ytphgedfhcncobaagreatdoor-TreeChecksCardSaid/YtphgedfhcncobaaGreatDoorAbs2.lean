/- The abstract run: what the operations, the commands and the calls of the program do with abstract values. A run that this text does not follow answers none. -/
import Derived.Test.YtphgedfhcncobaaGreatDoorAbs1
set_option linter.unusedSectionVars false
set_option linter.unusedVariables false
set_option linter.unusedSimpArgs false
set_option linter.constructorNameAsVariable false
namespace Go.Proofs.YtphgedfhcncobaaGreatDoor.A
open Go
abbrev HP:=Key→Option (List AV)
structure St where
 fr:List (Nat×AV)
 bx:List (Nat×List AV)
 hp:HP
structure Env where
 dp:Nat
 ro:Bool
def ag:List (Nat×AV)→Nat→AV
 | [],_=>.u
 | (k,x)::r,d=>if k=d then x else ag r d
def an:List (Nat×List AV)→Nat→Option (List AV)
 | [],_=>none
 | (k,x)::r,d=>if k=d then some x else an r d
def fU:List (Nat×List AV)→Nat→List AV→List (Nat×List AV)
 | [],_,_=>[]
 | (k,x)::r,d,y=>if k=d then (k,y)::r else (k,x)::fU r d y
def aP(hp:HP)(k:Key)(cs:List AV):HP:=fun k'=>if k'=k then some cs else hp k'
def St.bA(st:St)(d:Nat)(x:AV):St:={st with fr:=(d,x)::st.fr}
def St.box(dp:Nat)(st:St)(k:Key):Option (List AV):=if k.dp=dp then an st.bx k.d else st.hp k
def St.az(dp:Nat)(st:St)(k:Key)(cs:List AV):St:=
 if k.dp=dp then {st with bx:=fU st.bx k.d cs} else {st with hp:=aP st.hp k cs}
def St.aN(st:St)(pl:Pl):St:={st with fr:=st.fr.map fun x=>(x.1,if x.2.dA pl=true then .u else x.2)}
def oq:AV→Option Bool
 | .b x=>some x
 | _=>none
def tP:AV→Bool
 | .r _=>true
 | .v _ _ _=>true
 | .q _ _ _ _=>true
 | .w _ _ _=>true
 | _=>false
def St.rowAt(dp:Nat)(st:St):Pl→Option (TypeId×List AV)
 | .s d=>match ag st.fr d with
  | .o t es=>some (t,es)
  | _=>none
 | .c k off=>match st.box dp k with
  | some cs=>match cs[off]? with
   | some (.o t es)=>some (t,es)
   | _=>none
  | none=>none
def St.putAt(dp:Nat)(st:St)(x:AV):Pl→Option St
 | .s d=>some (st.bA d x)
 | .c k off=>match st.box dp k with
  | some cs=>some (st.az dp k (cs.set off x))
  | none=>none
def Pl.eD(E:Env):Pl→Bool
 | .s _=>true
 | .c k _=>decide (k.dp=E.dp)||!E.ro
inductive aC where
 | t (n:Nat)
 | c (x:AV)
def St.ev(st:St):aC→AV
 | .t n=>ag st.fr n
 | .c x=>x
def St.elems(dp:Nat)(st:St):AV→Option (TypeId×List AV)
 | .l t es=>some (t,es)
 | .n=>some (0,[])
 | .o t es=>some (t,es)
 | .r pl=>st.rowAt dp pl
 | .v pl lo len=>match st.rowAt dp pl with
  | some (t,es)=>if lo+len≤es.length then some (t,(es.drop lo).take len) else none
  | none=>none
 | _=>none
def pick(n:Option Nat)(off:Nat)(cs:List AV):Option AV:=
 match n with
 | none=>cs[off]?
 | some m=>if off+m≤cs.length then some (.a ((cs.drop off).take m)) else none
def putCells(cs:List AV)(off:Nat)(ys:List AV):List AV:=cs.take off++ys++cs.drop (off+ys.length)
def vl(x:AV):List AV→AV
 | [y]=>y
 | _=>x
def rO(e:AV)(off:Nat)(ys:List AV):AV:=
 match e with
 | .a cs=>.a (putCells cs off ys)
 | x=>vl x ys
def mE(op:BinOp)(k:IntKind)(a b:Int):Option AV:=
 match op with
 | .add=>some (.i k (k.wrap (a+b)))
 | .sub=>some (.i k (k.wrap (a - b)))
 | .mul=>some (.i k (k.wrap (a*b)))
 | .quo=>if b=0 then none else some (.i k (k.wrap (a.tdiv b)))
 | .rem=>if b=0 then none else some (.i k (a.tmod b))
 | .eql=>some (.b (a==b))
 | .neq=>some (.b (a !=b))
 | .lss=>some (.b (decide (a<b)))
 | .leq=>some (.b (decide (a≤b)))
 | .gtr=>some (.b (decide (b<a)))
 | .geq=>some (.b (decide (b≤a)))
 | _=>none
def lG(op:BinOp)(bl:Bool)(x y:AV):Option AV:=
 match x,y with
 | .i k a,.i k' b=>if k=k' then mE op k a b else none
 | .b a,.b b=>if bl then match op with
  | .eql=>some (.b (a==b))
  | .neq=>some (.b (!(a==b)))
  | _=>none
  else none
 | .s a,.s b=>match op with
  | .add=>if a.length+b.length≤4611686018427387904 then some (.s (a++b)) else none
  | .eql=>some (.b (a==b))
  | .neq=>some (.b (!(a==b)))
  | _=>none
 | _,_=>none
inductive jx where
 | mv (x:aC)
 | as (x:aC)
 | pk (c x y:aC)
 | bx (x:aC)
 | al (zs:List AV)
 | ld (n:Option Nat) (x:aC)
 | st (n:Nat) (x y:aC)
 | fa (off:Nat) (x:aC)
 | fd (n:Option Nat) (off:Nat) (x:aC)
 | ia (sz:Nat) (arr:Option Nat) (x i:aC)
 | ix (x i:aC)
 | bo (op:BinOp) (bl:Bool) (x y:aC)
 | no (x:aC)
 | ng (x:aC)
 | cv (k:IntKind) (x:aC)
 | cs (x:aC)
 | ae (ks:List Nat) (ng:Bool) (x y:aC)
 | bs (t sz:Nat) (es:List aC)
 | bd (zs:List AV) (fs:List (Nat×Nat×aC))
 | ms (t sz:Nat) (by_:Nat) (x:AV) (n:aC)
 | sl (t sz:Nat) (x:aC) (lo hi:Option aC)
 | ex (x:aC) (i:Nat)
 | mf (f:FuncId) (caps:List aC)
 | ca (m:Nat) (f:FuncId) (args:List aC)
 | cf (m:Nat) (x:aC) (args:List aC)
 | c2 (f:FuncId) (args:List aC)
 | d2 (x:aC) (args:List aC)
 | c3 (f:FuncId) (args:List aC)
 | d3 (x:aC) (args:List aC)
 | cn (f:FuncId) (args:List aC)
 | cr (t:Nat) (f:FuncId) (args:List aC)
 | ln (str:Bool) (x:aC)
 | ap (t sz:Nat) (by_:Nat) (x y:aC)
 | nc (x:aC)
 | cw (t:TypeId) (f:FuncId) (args:List aC)
 | xw (x:aC) (i:Nat)
 | sw (n:Nat) (x y:aC)
 | lw (n:Nat) (x:aC)
 | sp (f:FuncId) (x:aC)
 | vi (g f:FuncId) (args:List aC)
 | ch (f:FuncId) (args:List aC) (sl dl ow:List Nat)
 | lk (n:Option Nat) (x y:aC) (lv:Bool)
structure bU where
 d:Option Nat
 o:jx
 g:Option (Nat×Bool):=none
 fz:Bool:=false
structure bh where
 p:bU
 lt:Bool
 vw:List Nat
 vb:List Nat
 vh:Bool
 cs:List Nat
 nk:List Nat
 nb:List Nat
inductive aW where
 | ret (x:AV)
 | new (cs:List AV)
inductive aE where
 | nrm
 | ex (id:Nat)
 | ret
inductive qf where
 | own (d:Nat) (t:TypeId)
 | fz (d:Nat)
 | ownC (d off:Nat) (t:TypeId)
 | fzC (d off:Nat)
 | fzB (d:Nat) (agg:Bool)
inductive AC where
 | sk
 | rg (pre:List qf) (ops:List bU) (kf kb:List Nat)
 | dg (pre:List qf) (mks:List Nat) (ops:List bh) (kf kb:List Nat)
 | sq (x y:AC)
 | ite (c:aC) (x y:AC)
 | bl (id:Nat) (x:AC)
 | lp (x:AC)
 | ex (id:Nat)
 | rt
 | kp (kf kb:List Nat) (x:AC)
 | bad
inductive RV where
 | t (n:Nat)
 | c (n:Nat) (sz:Option Nat)
structure bb where
 code:AC
 res:List RV
abbrev nC:=FuncId→Option bb
abbrev bR:=FuncId→List AV→Option AV
abbrev Rec:=Env→FuncId→List AV→HP→Option (aW×HP)
def St.jo(dp:Nat)(st:St)(x:AV):Option (AV×List TypeId):=
 match x with
 | .o t es=>some (.l t es,[t])
 | .r pl=>(st.rowAt dp pl).bind fun r=>some (.l r.1 r.2,[r.1])
 | .v pl lo len=>(st.rowAt dp pl).bind fun r=>if lo+len≤r.2.length then some (.l r.1 ((r.2.drop lo).take len),[r.1]) else none
 | .w _ t x=>some (x,[t])
 | x=>if x.pure then some (x,[]) else none
def St.cS(dp:Nat)(st:St):List AV→Option (List AV×List TypeId)
 | []=>some ([],[])
 | x::xs=>(st.jo dp x).bind fun y=>(st.cS dp xs).bind fun ys=>some (y.1::ys.1,y.2++ys.2)
def ed(R:Rec)(Ω:bR)(E:Env)(st:St)(m:Nat)(f:FuncId)(args:List AV):Option (AV×St):=
 match m with
 | 0=>(st.cS E.dp args).bind fun ys=>(R ⟨0,false⟩ f ys.1 (fun _=>none)).bind fun r=>match r.1 with
  | .ret x=>if x.pure&&(ys.2.isEmpty||x.off ys.2) then some (x,st) else none
  | .new _=>none
 | 1=>(st.cS E.dp args).bind fun ys=>(Ω f ys.1).bind fun x=>if x.pure&&(ys.2.isEmpty||x.off ys.2) then some (x,st) else none
 | _=>none
def pq:AV→Bool
 | .r (.c _ _)=>true
 | .v (.c _ _) _ _=>true
 | .q (.c _ _) _ _ _=>true
 | _=>false
def iS(dp:Nat)(hp:HP):List (Nat×List AV)→List (Nat×List AV)
 | []=>[]
 | (d,_)::r=>match hp ⟨dp,d⟩ with
  | some cs=>(d,cs)::iS dp hp r
  | none=>iS dp hp r
def St.back(dp:Nat)(st:St)(hp:HP):St:=
 ⟨st.fr.map fun x=>(x.1,if pq x.2=true then .u else x.2),iS dp hp st.bx,fun k=>if k.dp<dp then hp k else none⟩
def AV.FC:AV→Bool
 | .o _ _=>true
 | .r _=>true
 | .v _ _ _=>true
 | x=>x.pure
def iz(R:Rec)(Ω:bR)(E:Env)(st:St)(f:FuncId)(args:List AV):Option (AV×St):=
 if args.all AV.FC=true then ed R Ω E st 0 f args
 else if (!E.ro&&args.all AV.copy&&st.bx.all fun y=>AV.dk E.dp y.2)=true then
  (R ⟨E.dp+1,false⟩ f args (fun k=>st.box E.dp k)).bind fun r=>match r.1 with
   | .ret x=>some (x,st.back E.dp r.2)
   | .new _=>none
 else none
def iA(R:Rec)(E:Env)(st:St)(f:FuncId)(args:List AV):Option (AV×St):=
 if (args.all AV.copy&&st.bx.all fun y=>AV.dk E.dp y.2)=true then
  (R ⟨E.dp+1,true⟩ f args (fun k=>st.box E.dp k)).bind fun r=>match r.1 with
   | .ret x=>if x.pure=true then some (x,st) else none
   | .new _=>none
 else none
def vm(dp:Nat)(st:St)(d:Nat):Bool:=(an st.bx d).isNone&&st.fr.all (fun y=>y.2.bL ⟨dp,d⟩)&&st.bx.all (fun y=>AV.dL ⟨dp,d⟩ y.2)
def ra(R:Rec)(E:Env)(st:St)(d:Nat)(f:FuncId)(args:List AV):Option (AV×St):=
 if (!E.ro&&args.all AV.copy&&st.bx.all fun y=>AV.dk E.dp y.2)=true then
  (R ⟨E.dp+1,false⟩ f args (fun k=>st.box E.dp k)).bind fun r=>match r.1 with
   | .ret _=>none
   | .new cs=>if vm E.dp (st.back E.dp r.2) d=true then some (.p ⟨E.dp,d⟩ 0,{(st.back E.dp r.2) with bx:=(d,cs)::(st.back E.dp r.2).bx}) else none
 else none
def wI(Ω:bR)(st:St)(d:Nat)(t:TypeId)(f:FuncId)(args:List AV):Option (AV×St):=
 if AV.bB args=true then (Ω f args).bind fun x=>match x with
  | .o t' []=>if t'=t then some (.o t [],st.aN (.s d)) else none
  | _=>none
 else none
def AV.qK(t:TypeId):AV→Option AV
 | .l t' es=>if AV.pn [t] es=true then some (.l (if t'=t then 0 else t') es) else none
 | x=>if (x.pure&&x.off [t])=true then some x else none
def AV.CI(t:TypeId):List AV→Option (List AV)
 | []=>some []
 | x::xs=>(AV.qK t x).bind fun y=>(AV.CI t xs).bind fun ys=>some (y::ys)
def AV.Cf(t:TypeId):AV→Option AV
 | .a cs=>(AV.CI t cs).map .a
 | x=>AV.qK t x
def AV.CJ(t:TypeId):List AV→Option (List AV)
 | []=>some []
 | x::xs=>(AV.Cf t x).bind fun y=>(AV.CJ t xs).bind fun ys=>some (y::ys)
mutual
def AV.iT(t:TypeId):AV→Bool
 | .a cs=>AV.ou t cs
 | .tp cs=>AV.ou t cs
 | .f _ cs=>AV.ou t cs
 | .ifc _ x=>AV.iT t x
 | .l t' es=>es.isEmpty||(t'==t&&AV.ou t es)
 | .e _ _=>false
 | _=>true
def AV.ou(t:TypeId):List AV→Bool
 | []=>true
 | x::xs=>AV.iT t x&&AV.ou t xs
end
def wJ(R:Rec)(st:St)(d:Nat)(t:TypeId)(f:FuncId)(args:List AV):Option (AV×St):=
 if (t !=0&&AV.bB args)=true then (AV.CJ t args).bind fun ys=>(R ⟨0,false⟩ f ys (fun _=>none)).bind fun r=>match r.1 with
  | .ret x=>if (x.pure&&AV.iT t x)=true then some (.w d t x,st) else none
  | .new _=>none
 else none
def Hw(n:Int):AV→Bool
 | .a cs=>decide ((cs.length:Int)=n)
 | _=>false
def Cg(R:Rec)(Ω:bR)(E:Env)(st:St)(g f:FuncId)(args:List AV):Option (AV×St):=
 (Ω f [.u,.i .i64 g]).bind fun z=>match z with
  | .i .i64 n=>if (!E.ro&&args.all AV.copy&&(args.length==1)&&st.bx.all fun y=>AV.dk E.dp y.2)=true then
    (R ⟨E.dp+1,false⟩ g args (fun k=>st.box E.dp k)).bind fun r=>match r.1 with
     | .ret x=>if Hw n x=true then some (.tp [x,.i .i64 0,.i .i64 0],st.back E.dp r.2) else none
     | .new _=>none
   else none
  | _=>none
def cj(dp:Nat)(st:St)(y:AV)(lv:Bool):Option Key:=match y with
 | .p k off=>if lv=true then (match (st.box dp k).bind (fun cs=>cs[off]?) with
  | some (.p k2 _)=>some k2
  | _=>none) else some k
 | _=>none
def sV(dp:Nat)(ow:List Nat):AV→Bool
 | .p k _=>decide (k.dp=dp)&&ow.contains k.d
 | _=>false
def dM(dp:Nat)(st:St)(sl dl ow:List Nat)(k:Key):Bool:=
 (sl.any fun n=>cj dp st (ag st.fr n) false==some k)||(dl.any fun n=>!sV dp ow (ag st.fr n)&&cj dp st (ag st.fr n) true==some k)||(decide (k.dp=dp)&&ow.contains k.d)
def bW(dp:Nat)(st:St)(sl dl ow:List Nat)(hp:HP):HP:=fun k=>if dM dp st sl dl ow k=true then st.box dp k else hp k
def sW(dp:Nat)(st:St)(sl dl ow:List Nat):HP:=fun k=>if dM dp st sl dl ow k=true then none else st.box dp k
def fV(hid:Key→Bool):AV→Bool
 | .r (.c k _)=>!hid k
 | .v (.c k _) _ _=>!hid k
 | .q (.c k _) _ _ _=>!hid k
 | _=>false
def tQ(bx:List (Nat×List AV))(g:Nat→List AV→Bool):Bool:=bx.all fun y=>g y.1 ((an bx y.1).getD [])
def rP(dp:Nat):Option Key→Bool
 | some k=>decide (k.dp≤dp)
 | none=>false
def St.bk(dp:Nat)(st:St)(hp:HP):St:=⟨st.fr,iS dp hp st.bx,fun k=>if k.dp<dp then hp k else none⟩
def pb(R:Rec)(E:Env)(st:St)(f:FuncId)(args:List AV)(sl dl ow:List Nat):Option (AV×St):=
 if (!E.ro&&args.all AV.copy&&tQ st.bx (fun _ cs=>AV.dk E.dp cs)&&(st.fr.all fun y=>!fV (dM E.dp st sl dl ow) y.2)&&sl.all (fun n=>rP E.dp (cj E.dp st (ag st.fr n) false))&&dl.all (fun n=>!sV E.dp ow (ag st.fr n)&&rP E.dp (cj E.dp st (ag st.fr n) true)))=true then
  (R ⟨E.dp+1,false⟩ f args (sW E.dp st sl dl ow)).bind fun r=>match r.1 with
   | .ret x=>if (x.pure&&tQ (st.bk E.dp (bW E.dp st sl dl ow r.2)).bx fun d cs=>ow.contains d||ow.all fun h=>AV.dL ⟨E.dp,h⟩ cs)=true then some (x,st.bk E.dp (bW E.dp st sl dl ow r.2)) else none
   | .new _=>none
 else none
def vn(g:Nat)(t:TypeId):AV→AV
 | .i k n=>.i k n
 | .b x=>.b x
 | x=>.w g t x
def Aa(g:Nat)(t:TypeId):List AV→Option (List AV)
 | []=>some []
 | .w g' t' x::xs=>if g'=g∧t'=t then (Aa g t xs).bind fun ys=>some (x::ys) else none
 | _::_=>none
def Hx:List AV→Option (Nat×TypeId×List AV)
 | .w g t x::xs=>(Aa g t (.w g t x::xs)).bind fun ys=>some (g,t,ys)
 | _=>none
def AV.ur(g:Nat):AV→AV
 | .w g' t x=>if g'=g then .u else .w g' t x
 | x=>x
def St.mF(st:St)(g:Nat):St:={st with fr:=st.fr.map (fun x=>(x.1,x.2.ur g)),bx:=st.bx.map (fun x=>(x.1,x.2.map (AV.ur g)))}
def jy:AV→Option Nat
 | .i _ n=>if 0≤n then some n.toNat else none
 | _=>none
def iU(st:St)(x:Option aC)(dflt:Nat):Option Nat:=
 match x with
 | none=>some dflt
 | some y=>jy (st.ev y)
def consume(E:Env)(st:St)(t:TypeId):aC→Option (List AV×St)
 | .c .n=>some ([],st)
 | .c _=>none
 | .t m=>match ag st.fr m with
  | .n=>some ([],st)
  | .o t' es=>if t'=t then some (es,st.bA m .u) else none
  | .r pl=>if pl.eD E then (st.rowAt E.dp pl).bind fun r=>if r.1=t then (st.putAt E.dp .u pl).bind fun st'=>some (r.2,st') else none else none
  | .v pl lo len=>if pl.eD E&&lo==0 then
    (st.rowAt E.dp pl).bind fun r=>if len≤r.2.length∧r.1=t then (st.putAt E.dp .u pl).bind fun st'=>some (r.2.take len,st') else none
   else none
  | _=>none
def elemAt(sz:Nat)(st:St)(e:Option AV)(x:AV→AV):Option (AV×St):=
 e.bind fun e=>if e.nc=sz then some (x e,st) else none
def eE:List Nat→List AV→List AV→Option Bool
 | [],[],[]=>some true
 | 0::ks,.b m::xs,.b n::ys=>(eE ks xs ys).map fun r=>(m==n)&&r
 | 1::ks,.i k m::xs,.i k' n::ys=>if k=k' then (eE ks xs ys).map fun r=>(m==n)&&r else none
 | 2::ks,.s m::xs,.s n::ys=>(eE ks xs ys).map fun r=>(m==n)&&r
 | _,_,_=>none
def execOp(R:Rec)(Ω:bR)(E:Env)(st:St)(d:Option Nat):jx→Option (AV×St)
 | .mv x=>match st.ev x with
  | .o _ _=>match x with
   | .t n=>some (.r (.s n),st)
   | .c _=>none
  | y=>some (y,st)
 | .as x=>match x with
  | .c y=>if y.pure then some (y,st) else none
  | .t n=>match ag st.fr n with
   | .o t es=>d.bind fun d=>some (.o t es,(st.bA n .u).aN (.s d))
   | .v pl lo len=>d.bind fun d=>
    if pl= .s d&&lo==0 then (st.rowAt E.dp pl).bind fun r=>if len≤r.2.length then some (.o r.1 (r.2.take len),st.aN (.s d)) else none
    else some (.v pl lo len,st)
   | y=>if y.copy||tP y then some (y,st) else none
 | .pk c x y=>(oq (st.ev c)).bind fun z=>
  if z=true then (if (st.ev x).copy then some (st.ev x,st) else none) else (if (st.ev y).copy then some (st.ev y,st) else none)
 | .bx x=>d.bind fun d=>
  let cs:=(st.ev x).cl
  if (st.ev x).copy&&cs.all AV.one&&(st.ev x).deep E.dp&&(an st.bx d).isNone&&st.fr.all (fun y=>y.2.bL ⟨E.dp,d⟩)&&st.bx.all (fun y=>AV.dL ⟨E.dp,d⟩ y.2)
  then some (.p ⟨E.dp,d⟩ 0,{st with bx:=(d,cs)::st.bx}) else none
 | .al zs=>d.bind fun d=>
  if (an st.bx d).isNone&&st.fr.all (fun y=>y.2.bL ⟨E.dp,d⟩)&&st.bx.all (fun y=>AV.dL ⟨E.dp,d⟩ y.2)
  then some (.p ⟨E.dp,d⟩ 0,{st with bx:=(d,zs)::st.bx}) else none
 | .ld n x=>match st.ev x with
  | .p k off=>(st.box E.dp k).bind fun cs=>(pick n off cs).bind fun y=>match y with
   | .o _ _=>some (.r (.c k off),st)
   | y=>if y.copy then some (y,st) else none
  | .e x off=>(pick n off x.cl).bind fun y=>some (y,st)
  | .q pl i sz off=>(st.rowAt E.dp pl).bind fun r=>(r.2[i]?).bind fun e=>if e.nc=sz then (pick n off e.cl).bind fun y=>some (y,st) else none
  | _=>none
 | .st n x y=>match st.ev x with
  | .p k off=>
   if (Pl.c k off).eD E then
    (st.box E.dp k).bind fun cs=>match st.ev y with
    | .o t es=>match y with
     | .t m=>if n==1&&decide (off<cs.length) then some (.u,(((st.bA m .u).aN (.c k off)).az E.dp k (cs.set off (.o t es)))) else none
     | _=>none
    | .v pl lo len=>
     if pl= .c k off&&lo==0&&n==1 then (st.rowAt E.dp pl).bind fun r=>if len≤r.2.length then some (.u,(st.aN (.c k off)).az E.dp k (cs.set off (.o r.1 (r.2.take len)))) else none
     else none
    | y=>if y.copy&&y.nc==n&&y.cl.all AV.one&&y.deep k.dp&&decide (off+n≤cs.length) then some (.u,st.az E.dp k (putCells cs off y.cl)) else none
   else none
  | .q pl i sz off=>
   if pl.eD E then
    (st.rowAt E.dp pl).bind fun r=>(r.2[i]?).bind fun e=>
     if e.nc==sz&&(st.ev y).pure&&(st.ev y).nc==n&&(st.ev y).cl.all AV.one&&decide (off+n≤sz) then
      (st.putAt E.dp (.o r.1 (r.2.set i (rO e off (st.ev y).cl))) pl).bind fun st'=>some (.u,st')
     else none
   else none
  | _=>none
 | .fa off x=>match st.ev x with
  | .p k o=>some (.p k (o+off),st)
  | .e y o=>some (.e y (o+off),st)
  | .q pl i sz o=>(st.rowAt E.dp pl).bind fun r=>if i<r.2.length then some (.q pl i sz (o+off),st) else none
  | _=>none
 | .fd n off x=>match st.ev x with
  | .a cs=>(pick n off cs).bind fun y=>some (y,st)
  | _=>none
 | .ia sz arr x i=>(jy (st.ev i)).bind fun j=>match arr with
  | some len=>if j<len then
    match st.ev x with
    | .p k o=>some (.p k (o+j*sz),st)
    | .e y o=>some (.e y (o+j*sz),st)
    | _=>none
   else none
  | none=>match st.ev x with
   | .l _ es=>elemAt sz st es[j]? fun e=>.e e 0
   | .o _ es=>match x with
    | .t m=>elemAt sz st es[j]? fun _=>.q (.s m) j sz 0
    | _=>none
   | .r pl=>(st.rowAt E.dp pl).bind fun r=>elemAt sz st r.2[j]? fun _=>.q pl j sz 0
   | .v pl lo len=>if j<len then (st.rowAt E.dp pl).bind fun r=>if lo+len≤r.2.length then elemAt sz st r.2[lo+j]? fun _=>.q pl (lo+j) sz 0 else none else none
   | _=>none
 | .ix x i=>match st.ev x with
  | .s l=>(jy (st.ev i)).bind fun j=>(l[j]?).bind fun c=>some (.i .u8 c.toNat,st)
  | _=>none
 | .bo op bl x y=>(lG op bl (st.ev x) (st.ev y)).bind fun r=>some (r,st)
 | .no x=>(oq (st.ev x)).bind fun y=>some (.b (!y),st)
 | .ng x=>match st.ev x with
  | .i k n=>some (.i k (k.wrap (0 - n)),st)
  | _=>none
 | .cv k x=>match st.ev x with
  | .i _ n=>some (.i k (k.wrap n),st)
  | _=>none
 | .cs x=>match st.ev x with
  | .i _ n=>if 0≤n∧n<128 then some (.s [UInt8.ofNat n.toNat],st) else none
  | _=>none
 | .ae ks ng x y=>match st.ev x,st.ev y with
  | .a xs,.a ys=>(eE ks xs ys).bind fun r=>some (.b (if ng then !r else r),st)
  | _,_=>none
 | .bs t sz es=>d.bind fun d=>
  let vs:=es.map st.ev
  if vs.all (fun y=>y.pure&&y.cl.all AV.one&&y.nc==sz) then some (.o t vs,st.aN (.s d)) else none
 | .bd zs fs=>
  if fs.all (fun f=>(st.ev f.2.2).copy&&(st.ev f.2.2).nc==f.2.1&&(st.ev f.2.2).cl.all AV.one&&decide (f.1+f.2.1≤zs.length)) then
   some (.a (fs.foldl (fun cs f=>putCells cs f.1 (st.ev f.2.2).cl) zs),st) else none
 | .ms t _ by_ x n=>d.bind fun d=>(jy (st.ev n)).bind fun n=>
  if n*by_≤140737488355328&&decide (n≤maxLen) then some (.o t (List.replicate n x),st.aN (.s d)) else none
 | .sl t sz x lo hi=>match st.ev x with
  | .s l=>(iU st lo 0).bind fun a=>(iU st hi l.length).bind fun b=>if t==0&&decide (a≤b)&&decide (b≤l.length) then some (.s ((l.take b).drop a),st) else none
  | .l t' es=>(iU st lo 0).bind fun a=>(iU st hi es.length).bind fun b=>if t !=0&&es.all (fun e=>e.nc==sz)&&decide (a≤b)&&decide (b≤es.length) then some (.l t' ((es.take b).drop a),st) else none
  | .r pl=>(st.rowAt E.dp pl).bind fun r=>(iU st lo 0).bind fun a=>(iU st hi r.2.length).bind fun b=>
   if t !=0&&r.1==t&&decide (a≤b)&&decide (b≤r.2.length) then some (.v pl a (b - a),st) else none
  | _=>none
 | .ex x i=>match st.ev x with
  | .tp vs=>(vs[i]?).bind fun y=>some (y,st)
  | _=>none
 | .mf f caps=>if AV.jw (caps.map st.ev) then some (.f f (caps.map st.ev),st) else none
 | .ca m f args=>ed R Ω E st m f (args.map st.ev)
 | .cf m x args=>match st.ev x with
  | .f f caps=>ed R Ω E st m f (args.map st.ev++caps)
  | _=>none
 | .c2 f args=>iz R Ω E st f (args.map st.ev)
 | .d2 x args=>match st.ev x with
  | .f f caps=>iz R Ω E st f (args.map st.ev++caps)
  | _=>none
 | .c3 f args=>iA R E st f (args.map st.ev)
 | .d3 x args=>match st.ev x with
  | .f f caps=>iA R E st f (args.map st.ev++caps)
  | _=>none
 | .cn f args=>d.bind fun d=>ra R E st d f (args.map st.ev)
 | .cr t f args=>d.bind fun d=>wI Ω st d t f (args.map st.ev)
 | .ln str x=>match st.ev x with
  | .s l=>if str then some (.i .i64 l.length,st) else none
  | y=>if str then none else (st.elems E.dp y).bind fun r=>some (.i .i64 r.2.length,st)
 | .ap t sz by_ x y=>d.bind fun d=>(st.elems E.dp (st.ev y)).bind fun ys=>(consume E st t x).bind fun r=>
  if ys.2.all (fun e=>e.nc==sz)&&decide ((r.1.length+ys.2.length)*by_≤140737488355328)&&decide (r.1.length+ys.2.length≤maxLen)
  then some (.o t (r.1++ys.2),r.2.aN (.s d)) else none
 | .nc x=>match st.ev x with
  | .p k o=>some (.p k o,st)
  | .e y o=>some (.e y o,st)
  | .q _ _ _ _=>none
  | .f g caps=>some (.f g caps,st)
  | _=>none
 | .cw t f args=>d.bind fun d=>wJ R st d t f (args.map st.ev)
 | .xw x i=>match st.ev x with
  | .w g t (.tp vs)=>(vs[i]?).bind fun y=>some (vn g t y,st)
  | _=>none
 | .sw n x y=>match st.ev x with
  | .p k off=>if k.dp=E.dp∧off=0 then
    (an st.bx k.d).bind fun bs=>match st.ev y with
     | .w g t (.a cs)=>if cs.length=n∧n≤bs.length then some (.u,st.az E.dp k (putCells bs 0 (cs.map (.w g t)))) else none
     | _=>none
   else none
  | _=>none
 | .lw n x=>match st.ev x with
  | .p k off=>(st.box E.dp k).bind fun cs=>if off+n≤cs.length then (Hx ((cs.drop off).take n)).bind fun y=>if y.2.2.all AV.one=true then some (.w y.1 y.2.1 (.a y.2.2),st) else none else none
  | _=>none
 | .sp f x=>match st.ev x with
  | .w g t y=>(Ω f [y]).bind fun r=>match r with
   | .u=>some (.u,st.mF g)
   | _=>none
  | _=>none
 | .vi g f args=>Cg R Ω E st g f (args.map st.ev)
 | .ch f args sl dl ow=>pb R E st f (args.map st.ev) sl dl ow
 | .lk n x y lv=>match st.ev x with
  | .p k off=>if cj E.dp st (st.ev y) lv=some k then (st.box E.dp k).bind fun cs=>(pick n off cs).bind fun y=>match y with
    | .o _ _=>some (.r (.c k off),st)
    | y=>if y.copy then some (y,st) else none
   else none
  | _=>none
def put(st:St)(d:Option Nat)(x:AV):St:=
 match d with
 | some d=>st.bA d x
 | none=>st
def sX:AV→Bool→Option Bool
 | .b x,want=>some (x==want)
 | .sk,_=>some false
 | _,_=>none
def db:Bool→AV→AV
 | true,.o t es=>.l t es
 | _,x=>x
def dZ(R:Rec)(Ω:bR)(E:Env)(st:St)(g:bU):Option St:=
 match g.g with
 | none=>(execOp R Ω E st g.d g.o).bind fun r=>some (put r.2 g.d (db g.fz r.1))
 | some (j,want)=>(sX (ag st.fr j) want).bind fun y=>
  if y=true then (execOp R Ω E st g.d g.o).bind fun r=>some (put r.2 g.d (db g.fz r.1)) else some (put st g.d .sk)
def gD(R:Rec)(Ω:bR)(E:Env):St→List bU→Option St
 | st,[]=>some st
 | st,g::gs=>(dZ R Ω E st g).bind fun st'=>gD R Ω E st' gs
def fh(fr:List (Nat×AV))(ks:List Nat):List (Nat×AV):=ks.map fun k=>(k,ag fr k)
def bG(bx:List (Nat×List AV)):List Nat→List (Nat×List AV)
 | []=>[]
 | k::ks=>match an bx k with
  | some cs=>(k,cs)::bG bx ks
  | none=>bG bx ks
def St.a7(st:St)(kf kb:List Nat):St:={st with fr:=fh st.fr kf,bx:=bG st.bx kb}
def view(p:bh)(s:St):St:=⟨fh s.fr p.vw,bG s.bx p.vb,if p.vh=true then s.hp else fun _=>none⟩
def Hy:AV→Bool
 | .u=>true
 | _=>false
def FD:AV→Bool
 | .o _ _=>true
 | _=>false
def eP(v:St):jx→Bool
 | .as x=>(v.ev x).copy
 | .mv x=>!Hy (v.ev x)
 | .ap _ _ _ x _=>match v.ev x with
  | .o _ _=>true
  | .n=>true
  | .r (.c _ _)=>true
  | _=>false
 | .st _ x y=>((v.ev y).copy||FD (v.ev y))&&match v.ev x with
  | .p _ _=>true
  | _=>false
 | _=>true
def wK:AV→Bool
 | .r (.c _ _)=>true
 | _=>false
def iB(dp:Nat)(p:bh)(v:St):Bool:=
 match p.p.o with
 | .st _ x y=>!FD (v.ev y)||(match v.ev x with
  | .p k _=>decide (k.dp=dp)&&p.vb==[k.d]&&(match y with
   | .t m=>p.cs==[m]
   | .c _=>false)
  | _=>false)
 | .ap _ _ _ x _=>wK (v.ev x)==(p.cs.length==2)
 | _=>true
def oH(k:Key):AV→Bool
 | .r (.c k' _)=>decide (k'=k)
 | .v (.c k' _) _ _=>decide (k'=k)
 | .q (.c k' _) _ _ _=>decide (k'=k)
 | _=>false
def vo(dp:Nat)(mk:List Nat)(x:AV):Bool:=mk.all fun h=>x.bL ⟨dp,h⟩&&!x.dA (.s h)
def okB(dp:Nat)(nb:List Nat)(x:AV):Bool:=(nb.all fun h=>!oH ⟨dp,h⟩ x)&&(!nb.contains 1000000||!pq x)
structure aX where
 fr:List (Nat×AV)
 nb:List (Nat×List AV)
 wb:List (Nat×List AV)
 hp:Option HP
def mG(bx:List (Nat×List AV)):List (Nat×List AV)→List (Nat×List AV)
 | []=>bx
 | (b,cs)::r=>fU (mG bx r) b cs
def aX.app(q:aX)(s:St):St:=⟨q.fr++s.fr,q.nb++mG s.bx q.wb,q.hp.getD s.hp⟩
def eF(d:Option Nat)(x:AV):List (Nat×AV):=
 match d with
 | some d=>[(d,x)]
 | none=>[]
def effect(p:bh)(r:AV×St):aX:=
 match p.p.o with
 | .al zs=>match p.p.d with
  | some d=>⟨[(d,r.1)],[(d,zs)],[],none⟩
  | none=>⟨[],[],[],none⟩
 | .st _ _ _=>⟨p.cs.map (fun m=>(m,.u)),[],bG r.2.bx p.vb,if p.vh=true then some r.2.hp else none⟩
 | .ap _ _ _ _ _=>⟨eF p.p.d (db p.p.fz r.1)++p.cs.map (fun m=>(m,.u)),[],if (p.cs.length==2)=true then bG r.2.bx p.vb else [],if (p.cs.length==2&&p.vh)=true then some r.2.hp else none⟩
 | _=>⟨eF p.p.d (db p.p.fz r.1)++p.cs.map (fun m=>(m,.u)),[],[],none⟩
def fi(R:Rec)(Ω:bR)(E:Env)(p:bh)(v:St):Option aX:=
 if (eP v p.p.o&&iB E.dp p v)=true then (execOp R Ω E v p.p.d p.p.o).bind fun r=>if (vo E.dp p.nk r.1&&okB E.dp p.nb r.1)=true then some (effect p r) else none else none
def bS(R:Rec)(Ω:bR)(E:Env)(p:bh)(s:St):Option aX:=
 match p.p.g with
 | none=>fi R Ω E p (view p s)
 | some (j,want)=>(sX (ag s.fr j) want).bind fun y=>if y=true then fi R Ω E p (view p s) else some ⟨eF p.p.d .sk,[],[],none⟩
def bT(R:Rec)(Ω:bR)(E:Env)(s:St)(p:bh):Option St:=
 if p.lt=true then (bS R Ω E p s).bind fun q=>some (q.app s) else dZ R Ω E s p.p
def lW(R:Rec)(Ω:bR)(E:Env):St→List bh→Option St
 | st,[]=>some st
 | st,p::ps=>(bT R Ω E st p).bind fun st'=>lW R Ω E st' ps
def nD:jx→List Nat→Bool
 | .st _ _ _,cs=>!cs.isEmpty
 | _,_=>false
def vp(dp:Nat)(st:St)(p:bh):Bool:=!nD p.p.o p.cs||p.vb.all fun h=>st.fr.all fun y=>!oH ⟨dp,h⟩ y.2
def pr(dp:Nat)(st:St)(h:Nat):Bool:=(an st.bx h).isNone&&st.fr.all (fun y=>y.2.bL ⟨dp,h⟩&&!y.2.dA (.s h))&&st.bx.all (fun y=>AV.dL ⟨dp,h⟩ y.2)
def ef(E:Env)(st:St):qf→Option St
 | .own d t=>match ag st.fr d with
  | .n=>some ((st.aN (.s d)).bA d (.o t []))
  | .o _ _=>some st
  | _=>none
 | .fz d=>match ag st.fr d with
  | .o t es=>some (st.bA d (.l t es))
  | _=>none
 | .ownC d off t=>match ag st.fr d with
  | .p k o=>if (Pl.c k (o+off)).eD E then
    (st.box E.dp k).bind fun cs=>match cs[o+off]? with
     | some .n=>some ((st.aN (.c k (o+off))).az E.dp k (cs.set (o+off) (.o t [])))
     | some (.o _ _)=>some st
     | _=>none
   else none
  | _=>none
 | .fzC d off=>match ag st.fr d with
  | .p k o=>if (Pl.c k (o+off)).eD E then
    (st.box E.dp k).bind fun cs=>match cs[o+off]? with
     | some (.o t es)=>some (st.az E.dp k (cs.set (o+off) (.l t es)))
     | _=>none
   else none
  | _=>none
 | .fzB d agg=>match ag st.fr d with
  | .p k 0=>if k.dp=E.dp then
    (an st.bx k.d).bind fun cs=>if AV.bB cs then
      if agg then some {(st.bA d (.e (.a cs) 0)) with bx:=st.bx.filter fun y=>y.1 !=k.d}
      else match cs with
       | [c]=>some {(st.bA d (.e c 0)) with bx:=st.bx.filter fun y=>y.1 !=k.d}
       | _=>none
     else none
   else none
  | _=>none
def oX(E:Env):St→List qf→Option St
 | st,[]=>some st
 | st,p::ps=>(ef E st p).bind fun st'=>oX E st' ps
def St.iV(dp:Nat)(st:St):AV→Option AV
 | .o t es=>some (.l t es)
 | .r (.s d)=>(st.rowAt dp (.s d)).bind fun r=>some (.l r.1 r.2)
 | .r (.c k off)=>if k.dp=dp then (st.rowAt dp (.c k off)).bind fun r=>some (.l r.1 r.2) else none
 | .v (.s d) lo len=>(st.rowAt dp (.s d)).bind fun r=>if lo+len≤r.2.length then some (.l r.1 ((r.2.drop lo).take len)) else none
 | .w _ _ _=>none
 | x=>some x
def St.wL(dp:Nat)(st:St):List AV→Option (List AV)
 | []=>some []
 | x::xs=>(st.iV dp x).bind fun y=>(st.wL dp xs).bind fun ys=>some (y::ys)
def St.qL(E:Env)(st:St):RV→Option AV
 | .t n=>st.iV E.dp (ag st.fr n)
 | .c n sz=>match ag st.fr n with
  | .p k off=>if k.dp=E.dp then
    (an st.bx k.d).bind fun cs=>(pick sz off cs).bind fun y=>match y with
     | .a ds=>(st.wL E.dp ds).bind fun ds=>some (.a ds)
     | y=>st.iV E.dp y
   else none
  | _=>none
def St.lH(E:Env)(st:St):List RV→Option (List AV)
 | []=>some []
 | x::xs=>(st.qL E x).bind fun y=>(st.lH E xs).bind fun ys=>some (y::ys)
def Ch:List AV→AV
 | [x]=>x
 | xs=>.tp xs
def St.result(E:Env)(st:St)(rs:List RV):Option AV:=
 (st.lH E rs).bind fun xs=>if AV.bB xs then some (Ch xs) else none
def pc:AV→Bool
 | .o _ _=>true
 | x=>x.pure
def St.tR(E:Env)(st:St):List RV→Option (List AV)
 | [.t n]=>match ag st.fr n with
  | .p k 0=>if k.dp=E.dp then (an st.bx k.d).bind fun cs=>if cs.all pc then some cs else none else none
  | _=>none
 | _=>none
def St.end_(E:Env)(st:St)(rs:List RV):Option aW:=
 match st.result E rs with
 | some x=>some (.ret x)
 | none=>(st.tR E rs).map .new
def iW:Nat→List AV→List (Nat×AV)
 | _,[]=>[]
 | i,x::xs=>(i,x)::iW (i+1) xs
def fj(G:nC)(X:Env→AC→St→Option (aE×St)):Rec:=fun E f args hp=>
 (G f).bind fun fn=>(X E fn.code ⟨iW 0 args,[],hp⟩).bind fun r=>match r.1 with
  | .ex _=>none
  | _=>(r.2.end_ E fn.res).bind fun x=>some (x,r.2.hp)
def pv(k:St→Option (aE×St))(r:aE×St):Option (aE×St):=
 match r.1 with
 | .nrm=>k r.2
 | e=>some (e,r.2)
def inBlock(id:Nat)(r:aE×St):Option (aE×St):=
 match r.1 with
 | .ex id'=>if id'=id then some (.nrm,r.2) else some (.ex id',r.2)
 | e=>some (e,r.2)
def exec(G:nC)(Ω:bR):Nat→Env→AC→St→Option (aE×St)
 | 0,_,_,_=>none
 | n+1,E,c,st=>
  match c with
  | .sk=>some (.nrm,st)
  | .rg pre ops kf kb=>(oX E st pre).bind fun st1=>(gD (fj G (exec G Ω n)) Ω E st1 ops).bind fun st2=>some (.nrm,st2.a7 kf kb)
  | .dg pre mks ops kf kb=>(oX E st pre).bind fun st1=>if (mks.all (pr E.dp st1)&&ops.all (vp E.dp st1))=true then
    (lW (fj G (exec G Ω n)) Ω E st1 ops).bind fun st2=>some (.nrm,st2.a7 kf kb) else none
  | .sq x y=>(exec G Ω n E x st).bind (pv fun st1=>exec G Ω n E y st1)
  | .ite c x y=>(oq (st.ev c)).bind fun z=>if z=true then exec G Ω n E x st else exec G Ω n E y st
  | .bl id x=>(exec G Ω n E x st).bind (inBlock id)
  | .lp x=>(exec G Ω n E x st).bind (pv fun st1=>exec G Ω n E (.lp x) st1)
  | .ex id=>some (.ex id,st)
  | .rt=>some (.ret,st)
  | .kp kf kb x=>exec G Ω n E x (st.a7 kf kb)
  | .bad=>none
end Go.Proofs.YtphgedfhcncobaaGreatDoor.A
