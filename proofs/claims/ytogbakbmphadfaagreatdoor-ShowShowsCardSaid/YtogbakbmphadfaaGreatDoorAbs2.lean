/- The abstract run: what the operations, the commands and the calls of the program do with abstract values. A run that this text does not follow answers none. -/
import Derived.Test.YtogbakbmphadfaaGreatDoorAbs1
set_option linter.unusedSectionVars false
set_option linter.unusedVariables false
set_option linter.unusedSimpArgs false
set_option linter.constructorNameAsVariable false
namespace Go.Proofs.YtogbakbmphadfaaGreatDoor.A
open Go
abbrev HP:=Key→Option (List AV)
structure St where
 fr:List (Nat×AV)
 bx:List (Nat×List AV)
 hp:HP
structure Env where
 dp:Nat
 ro:Bool
def an:List (Nat×AV)→Nat→AV
 | [],_=>.u
 | (k,x)::r,d=>if k=d then x else an r d
def az:List (Nat×List AV)→Nat→Option (List AV)
 | [],_=>none
 | (k,x)::r,d=>if k=d then some x else az r d
def hY:List (Nat×List AV)→Nat→List AV→List (Nat×List AV)
 | [],_,_=>[]
 | (k,x)::r,d,y=>if k=d then (k,y)::r else (k,x)::hY r d y
def aB(hp:HP)(k:Key)(cs:List AV):HP:=fun k'=>if k'=k then some cs else hp k'
def St.b5(st:St)(d:Nat)(x:AV):St:={st with fr:=(d,x)::st.fr}
def St.box(dp:Nat)(st:St)(k:Key):Option (List AV):=if k.dp=dp then az st.bx k.d else st.hp k
def St.aL(dp:Nat)(st:St)(k:Key)(cs:List AV):St:=
 if k.dp=dp then {st with bx:=hY st.bx k.d cs} else {st with hp:=aB st.hp k cs}
def St.aT(st:St)(pl:Pl):St:={st with fr:=st.fr.map fun x=>(x.1,if x.2.cG pl=true then .u else x.2)}
def q7:AV→Option Bool
 | .b x=>some x
 | _=>none
def ye:AV→Bool
 | .r _=>true
 | .v _ _ _=>true
 | .q _ _ _ _=>true
 | .w _ _ _=>true
 | .bp _ _ _=>true
 | _=>false
def St.rowAt(dp:Nat)(st:St):Pl→Option (TypeId×List AV)
 | .s d=>match an st.fr d with
  | .o t es=>some (t,es)
  | _=>none
 | .c k off=>match st.box dp k with
  | some cs=>match cs[off]? with
   | some (.o t es)=>some (t,es)
   | _=>none
  | none=>none
def St.putAt(dp:Nat)(st:St)(x:AV):Pl→Option St
 | .s d=>some (st.b5 d x)
 | .c k off=>match st.box dp k with
  | some cs=>some (st.aL dp k (cs.set off x))
  | none=>none
def Pl.fq(E:Env):Pl→Bool
 | .s _=>true
 | .c k _=>decide (k.dp=E.dp)||!E.ro
inductive aP where
 | t (n:Nat)
 | c (x:AV)
def St.ev(st:St):aP→AV
 | .t n=>an st.fr n
 | .c x=>x
def St.elems(dp:Nat)(st:St):AV→Option (TypeId×List AV)
 | .l t es=>some (t,es)
 | .n=>some (0,[])
 | .o t es=>some (t,es)
 | .r pl=>st.rowAt dp pl
 | .v pl lo len=>match st.rowAt dp pl with
  | some (t,es)=>if lo+len≤es.length then some (t,(es.drop lo).take len) else none
  | none=>none
 | _=>none
def pick(n:Option Nat)(off:Nat)(cs:List AV):Option AV:=
 match n with
 | none=>cs[off]?
 | some m=>if off+m≤cs.length then some (.a ((cs.drop off).take m)) else none
def putCells(cs:List AV)(off:Nat)(ys:List AV):List AV:=cs.take off++ys++cs.drop (off+ys.length)
def z7(x:AV):List AV→AV
 | [y]=>y
 | _=>x
def vD(e:AV)(off:Nat)(ys:List AV):AV:=
 match e with
 | .a cs=>.a (putCells cs off ys)
 | x=>z7 x ys
def pz(op:BinOp)(k:IntKind)(a b:Int):Option AV:=
 match op with
 | .add=>some (.i k (k.wrap (a+b)))
 | .sub=>some (.i k (k.wrap (a - b)))
 | .mul=>some (.i k (k.wrap (a*b)))
 | .quo=>if b=0 then none else some (.i k (k.wrap (a.tdiv b)))
 | .rem=>if b=0 then none else some (.i k (a.tmod b))
 | .eql=>some (.b (a==b))
 | .neq=>some (.b (a !=b))
 | .lss=>some (.b (decide (a<b)))
 | .leq=>some (.b (decide (a≤b)))
 | .gtr=>some (.b (decide (b<a)))
 | .geq=>some (.b (decide (b≤a)))
 | _=>none
def n9(op:BinOp)(bl:Bool)(x y:AV):Option AV:=
 match x,y with
 | .i k a,.i k' b=>if k=k' then pz op k a b else none
 | .b a,.b b=>if bl then match op with
  | .eql=>some (.b (a==b))
  | .neq=>some (.b (!(a==b)))
  | _=>none
  else none
 | .s a,.s b=>match op with
  | .add=>if a.length+b.length≤4611686018427387904 then some (.s (a++b)) else none
  | .eql=>some (.b (a==b))
  | .neq=>some (.b (!(a==b)))
  | _=>none
 | _,_=>none
inductive lJ where
 | mv (x:aP)
 | as (x:aP)
 | pk (c x y:aP)
 | bx (x:aP)
 | al (zs:List AV)
 | ld (n:Option Nat) (x:aP)
 | st (n:Nat) (x y:aP)
 | fa (off:Nat) (x:aP)
 | fd (n:Option Nat) (off:Nat) (x:aP)
 | ia (sz:Nat) (arr:Option Nat) (x i:aP)
 | ix (x i:aP)
 | bo (op:BinOp) (bl:Bool) (x y:aP)
 | no (x:aP)
 | ng (x:aP)
 | cv (k:IntKind) (x:aP)
 | cs (x:aP)
 | ae (ks:List Nat) (ng:Bool) (x y:aP)
 | bs (t sz:Nat) (es:List aP)
 | bd (zs:List AV) (fs:List (Nat×Nat×aP))
 | ms (t sz:Nat) (by_:Nat) (x:AV) (n:aP)
 | sl (t sz:Nat) (x:aP) (lo hi:Option aP)
 | ex (x:aP) (i:Nat)
 | mf (f:FuncId) (caps:List aP)
 | ca (m:Nat) (f:FuncId) (args:List aP)
 | cf (m:Nat) (x:aP) (args:List aP)
 | c2 (f:FuncId) (args:List aP)
 | d2 (x:aP) (args:List aP)
 | c3 (f:FuncId) (args:List aP)
 | d3 (x:aP) (args:List aP)
 | cn (f:FuncId) (args:List aP)
 | cr (t:Nat) (f:FuncId) (args:List aP)
 | ln (str:Bool) (x:aP)
 | ap (t sz:Nat) (by_:Nat) (x y:aP)
 | nc (x:aP)
 | cw (t:TypeId) (f:FuncId) (args:List aP)
 | xw (x:aP) (i:Nat)
 | sw (n:Nat) (x y:aP)
 | lw (n:Nat) (x:aP)
 | sp (f:FuncId) (x:aP)
 | vi (g f:FuncId) (args:List aP)
 | ch (f:FuncId) (args:List aP) (sl dl ow:List Nat)
 | lk (n:Option Nat) (x y:aP) (lv:Bool)
 | bz (t off:Nat) (x:aP)
 | lz (x:aP)
 | pe (ng:Bool) (x y:aP)
 | cp (t n off:Nat) (x:aP)
 | aq (t:Nat) (x y:aP)
 | sb (f:FuncId) (x:aP)
 | tx (x:aP)
 | sz (x y:aP)
structure cL where
 d:Option Nat
 o:lJ
 g:Option (Nat×Bool):=none
 fz:Bool:=false
structure bI where
 p:cL
 lt:Bool
 vw:List Nat
 vb:List Nat
 vh:Bool
 cs:List Nat
 nk:List Nat
 nb:List Nat
inductive aZ where
 | ret (x:AV)
 | new (cs:List AV)
inductive aK where
 | nrm
 | ex (id:Nat)
 | ret
inductive tN where
 | own (d:Nat) (t:TypeId)
 | fz (d:Nat)
 | ownC (d off:Nat) (t:TypeId)
 | fzC (d off:Nat)
 | fzB (d:Nat) (agg:Bool)
inductive AC where
 | sk
 | rg (pre:List tN) (ops:List cL) (kf kb:List Nat)
 | dg (pre:List tN) (mks:List Nat) (ops:List bI) (kf kb:List Nat)
 | sq (x y:AC)
 | ite (c:aP) (x y:AC)
 | bl (id:Nat) (x:AC)
 | lp (x:AC)
 | ex (id:Nat)
 | rt
 | kp (kf kb:List Nat) (x:AC)
 | bad
inductive RV where
 | t (n:Nat)
 | c (n:Nat) (sz:Option Nat)
structure bg where
 code:AC
 res:List RV
abbrev qn:=FuncId→Option bg
abbrev cI:=FuncId→List AV→Option AV
abbrev Rec:=Env→FuncId→List AV→HP→Option (aZ×HP)
def St.lA(dp:Nat)(st:St)(x:AV):Option (AV×List TypeId):=
 match x with
 | .o t es=>some (.l t es,[t])
 | .r pl=>(st.rowAt dp pl).bind fun r=>some (.l r.1 r.2,[r.1])
 | .v pl lo len=>(st.rowAt dp pl).bind fun r=>if lo+len≤r.2.length then some (.l r.1 ((r.2.drop lo).take len),[r.1]) else none
 | .w _ t x=>some (x,[t])
 | x=>if x.pure then some (x,[]) else none
def St.dY(dp:Nat)(st:St):List AV→Option (List AV×List TypeId)
 | []=>some ([],[])
 | x::xs=>(st.lA dp x).bind fun y=>(st.dY dp xs).bind fun ys=>some (y.1::ys.1,y.2++ys.2)
def fx(R:Rec)(Ω:cI)(E:Env)(st:St)(m:Nat)(f:FuncId)(args:List AV):Option (AV×St):=
 match m with
 | 0=>(st.dY E.dp args).bind fun ys=>(R ⟨0,false⟩ f ys.1 (fun _=>none)).bind fun r=>match r.1 with
  | .ret x=>if x.pure&&(ys.2.isEmpty||x.off ys.2) then some (x,st) else none
  | .new _=>none
 | 1=>(st.dY E.dp args).bind fun ys=>(Ω f ys.1).bind fun x=>if x.pure&&(ys.2.isEmpty||x.off ys.2) then some (x,st) else none
 | _=>none
def sF:AV→Bool
 | .r (.c _ _)=>true
 | .v (.c _ _) _ _=>true
 | .q (.c _ _) _ _ _=>true
 | _=>false
def kJ(dp:Nat)(hp:HP):List (Nat×List AV)→List (Nat×List AV)
 | []=>[]
 | (d,_)::r=>match hp ⟨dp,d⟩ with
  | some cs=>(d,cs)::kJ dp hp r
  | none=>kJ dp hp r
def St.back(dp:Nat)(st:St)(hp:HP):St:=
 ⟨st.fr.map fun x=>(x.1,if sF x.2=true then .u else x.2),kJ dp hp st.bx,fun k=>if k.dp<dp then hp k else none⟩
def AV.LA:AV→Bool
 | .o _ _=>true
 | .r _=>true
 | .v _ _ _=>true
 | x=>x.pure
def kg(R:Rec)(Ω:cI)(E:Env)(st:St)(f:FuncId)(args:List AV):Option (AV×St):=
 if args.all AV.LA=true then fx R Ω E st 0 f args
 else if (!E.ro&&args.all AV.copy&&st.bx.all fun y=>AV.dB E.dp y.2)=true then
  (R ⟨E.dp+1,false⟩ f args (fun k=>st.box E.dp k)).bind fun r=>match r.1 with
   | .ret x=>some (x,st.back E.dp r.2)
   | .new _=>none
 else none
def kh(R:Rec)(E:Env)(st:St)(f:FuncId)(args:List AV):Option (AV×St):=
 if (args.all AV.copy&&st.bx.all fun y=>AV.dB E.dp y.2)=true then
  (R ⟨E.dp+1,true⟩ f args (fun k=>st.box E.dp k)).bind fun r=>match r.1 with
   | .ret x=>if x.pure=true then some (x,st) else none
   | .new _=>none
 else none
def z8(dp:Nat)(st:St)(d:Nat):Bool:=(az st.bx d).isNone&&st.fr.all (fun y=>y.2.bn ⟨dp,d⟩)&&st.bx.all (fun y=>AV.bY ⟨dp,d⟩ y.2)
def uZ(R:Rec)(E:Env)(st:St)(d:Nat)(f:FuncId)(args:List AV):Option (AV×St):=
 if (!E.ro&&args.all AV.copy&&st.bx.all fun y=>AV.dB E.dp y.2)=true then
  (R ⟨E.dp+1,false⟩ f args (fun k=>st.box E.dp k)).bind fun r=>match r.1 with
   | .ret _=>none
   | .new cs=>if z8 E.dp (st.back E.dp r.2) d=true then some (.p ⟨E.dp,d⟩ 0,{(st.back E.dp r.2) with bx:=(d,cs)::(st.back E.dp r.2).bx}) else none
 else none
def Bq(Ω:cI)(st:St)(d:Nat)(t:TypeId)(f:FuncId)(args:List AV):Option (AV×St):=
 if AV.b7 args=true then (Ω f args).bind fun x=>match x with
  | .o t' []=>if t'=t then some (.o t [],st.aT (.s d)) else none
  | _=>none
 else none
def AV.uq(t:TypeId):AV→Option AV
 | .l t' es=>if AV.sE [t] es=true then some (.l (if t'=t then 0 else t') es) else none
 | x=>if (x.pure&&x.off [t])=true then some x else none
def AV.HT(t:TypeId):List AV→Option (List AV)
 | []=>some []
 | x::xs=>(AV.uq t x).bind fun y=>(AV.HT t xs).bind fun ys=>some (y::ys)
def AV.Ho(t:TypeId):AV→Option AV
 | .a cs=>(AV.HT t cs).map .a
 | x=>AV.uq t x
def AV.HU(t:TypeId):List AV→Option (List AV)
 | []=>some []
 | x::xs=>(AV.Ho t x).bind fun y=>(AV.HU t xs).bind fun ys=>some (y::ys)
mutual
def AV.kK(t:TypeId):AV→Bool
 | .a cs=>AV.q8 t cs
 | .tp cs=>AV.q8 t cs
 | .f _ cs=>AV.q8 t cs
 | .ifc _ x=>AV.kK t x
 | .l t' es=>es.isEmpty||(t'==t&&AV.q8 t es)
 | .e _ _=>false
 | _=>true
def AV.q8(t:TypeId):List AV→Bool
 | []=>true
 | x::xs=>AV.kK t x&&AV.q8 t xs
end
def Br(R:Rec)(st:St)(d:Nat)(t:TypeId)(f:FuncId)(args:List AV):Option (AV×St):=
 if (t !=0&&AV.b7 args)=true then (AV.HU t args).bind fun ys=>(R ⟨0,false⟩ f ys (fun _=>none)).bind fun r=>match r.1 with
  | .ret x=>if (x.pure&&AV.kK t x)=true then some (.w d t x,st) else none
  | .new _=>none
 else none
def NL(n:Int):AV→Bool
 | .a cs=>decide ((cs.length:Int)=n)
 | _=>false
def Hp(R:Rec)(Ω:cI)(E:Env)(st:St)(g f:FuncId)(args:List AV):Option (AV×St):=
 (Ω f [.u,.i .i64 g]).bind fun z=>match z with
  | .i .i64 n=>if (!E.ro&&args.all AV.copy&&(args.length==1)&&st.bx.all fun y=>AV.dB E.dp y.2)=true then
    (R ⟨E.dp+1,false⟩ g args (fun k=>st.box E.dp k)).bind fun r=>match r.1 with
     | .ret x=>if NL n x=true then some (.tp [x,.i .i64 0,.i .i64 0],st.back E.dp r.2) else none
     | .new _=>none
   else none
  | _=>none
def di(dp:Nat)(st:St)(y:AV)(lv:Bool):Option Key:=match y with
 | .p k off=>if lv=true then (match (st.box dp k).bind (fun cs=>cs[off]?) with
  | some (.p k2 _)=>some k2
  | _=>none) else some k
 | _=>none
def wV(dp:Nat)(ow:List Nat):AV→Bool
 | .p k _=>decide (k.dp=dp)&&ow.contains k.d
 | _=>false
def eW(dp:Nat)(st:St)(sl dl ow:List Nat)(k:Key):Bool:=
 (sl.any fun n=>di dp st (an st.fr n) false==some k)||(dl.any fun n=>!wV dp ow (an st.fr n)&&di dp st (an st.fr n) true==some k)||(decide (k.dp=dp)&&ow.contains k.d)
def cQ(dp:Nat)(st:St)(sl dl ow:List Nat)(hp:HP):HP:=fun k=>if eW dp st sl dl ow k=true then st.box dp k else hp k
def wW(dp:Nat)(st:St)(sl dl ow:List Nat):HP:=fun k=>if eW dp st sl dl ow k=true then none else st.box dp k
def iR(hid:Key→Bool):AV→Bool
 | .r (.c k _)=>!hid k
 | .v (.c k _) _ _=>!hid k
 | .q (.c k _) _ _ _=>!hid k
 | _=>false
def yf(bx:List (Nat×List AV))(g:Nat→List AV→Bool):Bool:=bx.all fun y=>g y.1 ((az bx y.1).getD [])
def vE(dp:Nat):Option Key→Bool
 | some k=>decide (k.dp≤dp)
 | none=>false
def St.bL(dp:Nat)(st:St)(hp:HP):St:=⟨st.fr,kJ dp hp st.bx,fun k=>if k.dp<dp then hp k else none⟩
def sr(R:Rec)(E:Env)(st:St)(f:FuncId)(args:List AV)(sl dl ow:List Nat):Option (AV×St):=
 if (!E.ro&&args.all AV.copy&&yf st.bx (fun _ cs=>AV.dB E.dp cs)&&(st.fr.all fun y=>!iR (eW E.dp st sl dl ow) y.2)&&sl.all (fun n=>vE E.dp (di E.dp st (an st.fr n) false))&&dl.all (fun n=>!wV E.dp ow (an st.fr n)&&vE E.dp (di E.dp st (an st.fr n) true)))=true then
  (R ⟨E.dp+1,false⟩ f args (wW E.dp st sl dl ow)).bind fun r=>match r.1 with
   | .ret x=>if (x.pure&&yf (st.bL E.dp (cQ E.dp st sl dl ow r.2)).bx fun d cs=>ow.contains d||ow.all fun h=>AV.bY ⟨E.dp,h⟩ cs)=true then some (x,st.bL E.dp (cQ E.dp st sl dl ow r.2)) else none
   | .new _=>none
 else none
def Aa(g:Nat)(t:TypeId):AV→AV
 | .i k n=>.i k n
 | .b x=>.b x
 | x=>.w g t x
def EK(g:Nat)(t:TypeId):List AV→Option (List AV)
 | []=>some []
 | .w g' t' x::xs=>if g'=g∧t'=t then (EK g t xs).bind fun ys=>some (x::ys) else none
 | _::_=>none
def NM:List AV→Option (Nat×TypeId×List AV)
 | .w g t x::xs=>(EK g t (.w g t x::xs)).bind fun ys=>some (g,t,ys)
 | _=>none
def AV.yM(g:Nat):AV→AV
 | .w g' t x=>if g'=g then .u else .w g' t x
 | x=>x
def St.pA(st:St)(g:Nat):St:={st with fr:=st.fr.map (fun x=>(x.1,x.2.yM g)),bx:=st.bx.map (fun x=>(x.1,x.2.map (AV.yM g)))}
def lK:AV→Option Nat
 | .i _ n=>if 0≤n then some n.toNat else none
 | _=>none
def kL(st:St)(x:Option aP)(dflt:Nat):Option Nat:=
 match x with
 | none=>some dflt
 | some y=>lK (st.ev y)
def consume(E:Env)(st:St)(t:TypeId):aP→Option (List AV×St)
 | .c .n=>some ([],st)
 | .c _=>none
 | .t m=>match an st.fr m with
  | .n=>some ([],st)
  | .o t' es=>if t'=t then some (es,st.b5 m .u) else none
  | .r pl=>if pl.fq E then (st.rowAt E.dp pl).bind fun r=>if r.1=t then (st.putAt E.dp .u pl).bind fun st'=>some (r.2,st') else none else none
  | .v pl lo len=>if pl.fq E&&lo==0 then
    (st.rowAt E.dp pl).bind fun r=>if len≤r.2.length∧r.1=t then (st.putAt E.dp .u pl).bind fun st'=>some (r.2.take len,st') else none
   else none
  | _=>none
def elemAt(sz:Nat)(st:St)(e:Option AV)(x:AV→AV):Option (AV×St):=
 e.bind fun e=>if e.nc=sz then some (x e,st) else none
def af(c:UInt8):AV:=.i .u8 c.toNat
def bytesOf:List AV→Option (List UInt8)
 | []=>some []
 | .i .u8 n::r=>if 0≤n∧n<256 then (bytesOf r).map (UInt8.ofNat n.toNat::·) else none
 | _=>none
def fY:List Nat→List AV→List AV→Option Bool
 | [],[],[]=>some true
 | 0::ks,.b m::xs,.b n::ys=>(fY ks xs ys).map fun r=>(m==n)&&r
 | 1::ks,.i k m::xs,.i k' n::ys=>if k=k' then (fY ks xs ys).map fun r=>(m==n)&&r else none
 | 2::ks,.s m::xs,.s n::ys=>(fY ks xs ys).map fun r=>(m==n)&&r
 | _,_,_=>none
def execOp(R:Rec)(Ω:cI)(E:Env)(st:St)(d:Option Nat):lJ→Option (AV×St)
 | .mv x=>match st.ev x with
  | .o _ _=>match x with
   | .t n=>some (.r (.s n),st)
   | .c _=>none
  | y=>some (y,st)
 | .as x=>match x with
  | .c y=>if y.pure then some (y,st) else none
  | .t n=>match an st.fr n with
   | .o t es=>d.bind fun d=>some (.o t es,(st.b5 n .u).aT (.s d))
   | .v pl lo len=>d.bind fun d=>
    if pl= .s d&&lo==0 then (st.rowAt E.dp pl).bind fun r=>if len≤r.2.length then some (.o r.1 (r.2.take len),st.aT (.s d)) else none
    else some (.v pl lo len,st)
   | y=>if y.copy||ye y then some (y,st) else none
 | .pk c x y=>(q7 (st.ev c)).bind fun z=>
  if z=true then (if (st.ev x).copy then some (st.ev x,st) else none) else (if (st.ev y).copy then some (st.ev y,st) else none)
 | .bx x=>d.bind fun d=>
  let cs:=(st.ev x).cl
  if (st.ev x).copy&&cs.all AV.one&&(st.ev x).deep E.dp&&(az st.bx d).isNone&&st.fr.all (fun y=>y.2.bn ⟨E.dp,d⟩)&&st.bx.all (fun y=>AV.bY ⟨E.dp,d⟩ y.2)
  then some (.p ⟨E.dp,d⟩ 0,{st with bx:=(d,cs)::st.bx}) else none
 | .al zs=>d.bind fun d=>
  if (az st.bx d).isNone&&st.fr.all (fun y=>y.2.bn ⟨E.dp,d⟩)&&st.bx.all (fun y=>AV.bY ⟨E.dp,d⟩ y.2)
  then some (.p ⟨E.dp,d⟩ 0,{st with bx:=(d,zs)::st.bx}) else none
 | .ld n x=>match st.ev x with
  | .p k off=>(st.box E.dp k).bind fun cs=>(pick n off cs).bind fun y=>match y with
   | .o _ _=>some (.r (.c k off),st)
   | y=>if y.copy then some (y,st) else none
  | .e x off=>(pick n off x.cl).bind fun y=>some (y,st)
  | .q pl i sz off=>(st.rowAt E.dp pl).bind fun r=>(r.2[i]?).bind fun e=>if e.nc=sz then (pick n off e.cl).bind fun y=>some (y,st) else none
  | _=>none
 | .st n x y=>match st.ev x with
  | .p k off=>
   if (Pl.c k off).fq E then
    (st.box E.dp k).bind fun cs=>match st.ev y with
    | .o t es=>match y with
     | .t m=>if n==1&&decide (off<cs.length) then some (.u,(((st.b5 m .u).aT (.c k off)).aL E.dp k (cs.set off (.o t es)))) else none
     | _=>none
    | .v pl lo len=>
     if pl= .c k off&&lo==0&&n==1 then (st.rowAt E.dp pl).bind fun r=>if len≤r.2.length then some (.u,(st.aT (.c k off)).aL E.dp k (cs.set off (.o r.1 (r.2.take len)))) else none
     else none
    | y=>if y.copy&&y.nc==n&&y.cl.all AV.one&&y.deep k.dp&&decide (off+n≤cs.length) then some (.u,st.aL E.dp k (putCells cs off y.cl)) else none
   else none
  | .q pl i sz off=>
   if pl.fq E then
    (st.rowAt E.dp pl).bind fun r=>(r.2[i]?).bind fun e=>
     if e.nc==sz&&(st.ev y).pure&&(st.ev y).nc==n&&(st.ev y).cl.all AV.one&&decide (off+n≤sz) then
      (st.putAt E.dp (.o r.1 (r.2.set i (vD e off (st.ev y).cl))) pl).bind fun st'=>some (.u,st')
     else none
   else none
  | _=>none
 | .fa off x=>match st.ev x with
  | .p k o=>some (.p k (o+off),st)
  | .e y o=>some (.e y (o+off),st)
  | .q pl i sz o=>(st.rowAt E.dp pl).bind fun r=>if i<r.2.length then some (.q pl i sz (o+off),st) else none
  | _=>none
 | .fd n off x=>match st.ev x with
  | .a cs=>(pick n off cs).bind fun y=>some (y,st)
  | _=>none
 | .ia sz arr x i=>(lK (st.ev i)).bind fun j=>match arr with
  | some len=>if j<len then
    match st.ev x with
    | .p k o=>some (.p k (o+j*sz),st)
    | .e y o=>some (.e y (o+j*sz),st)
    | _=>none
   else none
  | none=>match st.ev x with
   | .l _ es=>elemAt sz st es[j]? fun e=>.e e 0
   | .o _ es=>match x with
    | .t m=>elemAt sz st es[j]? fun _=>.q (.s m) j sz 0
    | _=>none
   | .r pl=>(st.rowAt E.dp pl).bind fun r=>elemAt sz st r.2[j]? fun _=>.q pl j sz 0
   | .v pl lo len=>if j<len then (st.rowAt E.dp pl).bind fun r=>if lo+len≤r.2.length then elemAt sz st r.2[lo+j]? fun _=>.q pl (lo+j) sz 0 else none else none
   | _=>none
 | .ix x i=>match st.ev x with
  | .s l=>(lK (st.ev i)).bind fun j=>(l[j]?).bind fun c=>some (.i .u8 c.toNat,st)
  | _=>none
 | .bo op bl x y=>(n9 op bl (st.ev x) (st.ev y)).bind fun r=>some (r,st)
 | .no x=>(q7 (st.ev x)).bind fun y=>some (.b (!y),st)
 | .ng x=>match st.ev x with
  | .i k n=>some (.i k (k.wrap (0 - n)),st)
  | _=>none
 | .cv k x=>match st.ev x with
  | .i _ n=>some (.i k (k.wrap n),st)
  | _=>none
 | .cs x=>match st.ev x with
  | .i _ n=>if 0≤n∧n<128 then some (.s [UInt8.ofNat n.toNat],st) else none
  | _=>none
 | .ae ks ng x y=>match st.ev x,st.ev y with
  | .a xs,.a ys=>(fY ks xs ys).bind fun r=>some (.b (if ng then !r else r),st)
  | _,_=>none
 | .bs t sz es=>d.bind fun d=>
  let vs:=es.map st.ev
  if vs.all (fun y=>y.pure&&y.cl.all AV.one&&y.nc==sz) then some (.o t vs,st.aT (.s d)) else none
 | .bd zs fs=>
  if fs.all (fun f=>(st.ev f.2.2).copy&&(st.ev f.2.2).nc==f.2.1&&(st.ev f.2.2).cl.all AV.one&&decide (f.1+f.2.1≤zs.length)) then
   some (.a (fs.foldl (fun cs f=>putCells cs f.1 (st.ev f.2.2).cl) zs),st) else none
 | .ms t _ by_ x n=>d.bind fun d=>(lK (st.ev n)).bind fun n=>
  if n*by_≤140737488355328&&decide (n≤maxLen) then some (.o t (List.replicate n x),st.aT (.s d)) else none
 | .sl t sz x lo hi=>match st.ev x with
  | .s l=>(kL st lo 0).bind fun a=>(kL st hi l.length).bind fun b=>if t==0&&decide (a≤b)&&decide (b≤l.length) then some (.s ((l.take b).drop a),st) else none
  | .l t' es=>(kL st lo 0).bind fun a=>(kL st hi es.length).bind fun b=>if t !=0&&es.all (fun e=>e.nc==sz)&&decide (a≤b)&&decide (b≤es.length) then some (.l t' ((es.take b).drop a),st) else none
  | .r pl=>(st.rowAt E.dp pl).bind fun r=>(kL st lo 0).bind fun a=>(kL st hi r.2.length).bind fun b=>
   if t !=0&&r.1==t&&decide (a≤b)&&decide (b≤r.2.length) then some (.v pl a (b - a),st) else none
  | _=>none
 | .ex x i=>match st.ev x with
  | .tp vs=>(vs[i]?).bind fun y=>some (y,st)
  | _=>none
 | .mf f caps=>if AV.lI (caps.map st.ev) then some (.f f (caps.map st.ev),st) else none
 | .ca m f args=>fx R Ω E st m f (args.map st.ev)
 | .cf m x args=>match st.ev x with
  | .f f caps=>fx R Ω E st m f (args.map st.ev++caps)
  | _=>none
 | .c2 f args=>kg R Ω E st f (args.map st.ev)
 | .d2 x args=>match st.ev x with
  | .f f caps=>kg R Ω E st f (args.map st.ev++caps)
  | _=>none
 | .c3 f args=>kh R E st f (args.map st.ev)
 | .d3 x args=>match st.ev x with
  | .f f caps=>kh R E st f (args.map st.ev++caps)
  | _=>none
 | .cn f args=>d.bind fun d=>uZ R E st d f (args.map st.ev)
 | .cr t f args=>d.bind fun d=>Bq Ω st d t f (args.map st.ev)
 | .ln str x=>match st.ev x with
  | .s l=>if str then some (.i .i64 l.length,st) else none
  | y=>if str then none else (st.elems E.dp y).bind fun r=>some (.i .i64 r.2.length,st)
 | .ap t sz by_ x y=>d.bind fun d=>(st.elems E.dp (st.ev y)).bind fun ys=>(consume E st t x).bind fun r=>
  if ys.2.all (fun e=>e.nc==sz)&&decide ((r.1.length+ys.2.length)*by_≤140737488355328)&&decide (r.1.length+ys.2.length≤maxLen)
  then some (.o t (r.1++ys.2),r.2.aT (.s d)) else none
 | .nc x=>match st.ev x with
  | .p k o=>some (.p k o,st)
  | .e y o=>some (.e y o,st)
  | .q _ _ _ _=>none
  | .f g caps=>some (.f g caps,st)
  | _=>none
 | .cw t f args=>d.bind fun d=>Br R st d t f (args.map st.ev)
 | .xw x i=>match st.ev x with
  | .w g t (.tp vs)=>(vs[i]?).bind fun y=>some (Aa g t y,st)
  | _=>none
 | .sw n x y=>match st.ev x with
  | .p k off=>if k.dp=E.dp∧off=0 then
    (az st.bx k.d).bind fun bs=>match st.ev y with
     | .w g t (.a cs)=>if cs.length=n∧n≤bs.length then some (.u,st.aL E.dp k (putCells bs 0 (cs.map (.w g t)))) else none
     | _=>none
   else none
  | _=>none
 | .lw n x=>match st.ev x with
  | .p k off=>(st.box E.dp k).bind fun cs=>if off+n≤cs.length then (NM ((cs.drop off).take n)).bind fun y=>if y.2.2.all AV.one=true then some (.w y.1 y.2.1 (.a y.2.2),st) else none else none
  | _=>none
 | .sp f x=>match st.ev x with
  | .w g t y=>(Ω f [y]).bind fun r=>match r with
   | .u=>some (.u,st.pA g)
   | _=>none
  | _=>none
 | .vi g f args=>Hp R Ω E st g f (args.map st.ev)
 | .ch f args sl dl ow=>sr R E st f (args.map st.ev) sl dl ow
 | .lk n x y lv=>match st.ev x with
  | .p k off=>if di E.dp st (st.ev y) lv=some k then (st.box E.dp k).bind fun cs=>(pick n off cs).bind fun y=>match y with
    | .o _ _=>some (.r (.c k off),st)
    | y=>if y.copy then some (y,st) else none
   else none
  | _=>none
 | .bz t off x=>d.bind fun d=>
  let cs:=(st.ev x).cl
  if (st.ev x).copy&&cs.all AV.one&&(st.ev x).deep E.dp&&(az st.bx d).isNone&&st.fr.all (fun y=>y.2.bn ⟨E.dp,d⟩)&&st.bx.all (fun y=>AV.bY ⟨E.dp,d⟩ y.2)
  then (match cs[off]? with
   | some .z=>some (.p ⟨E.dp,d⟩ 0,({st with bx:=(d,cs)::st.bx} : St).aL E.dp ⟨E.dp,d⟩ (cs.set off (.bp t ⟨E.dp,d⟩ false)))
   | _=>none) else none
 | .lz x=>match st.ev x with
  | .p k off=>(st.box E.dp k).bind fun cs=>match cs[off]? with
   | some (.bp _ k' u)=>some (if u=true then .p k' off else .z,st)
   | some (.p k2 o2)=>some (.p k2 o2,st)
   | _=>none
  | _=>none
 | .pe ng x y=>match st.ev x,st.ev y with
  | .z,.z=>some (.b (!ng),st)
  | .p _ _,.z=>some (.b ng,st)
  | .p k o,.p k' o'=>if k=k'∧o=o' then some (.b (!ng),st) else none
  | _,_=>none
 | .cp t n off x=>match st.ev x with
  | .p k o=>(st.box E.dp k).bind fun cs=>if o=off∧cs.length=n then (match cs[off]? with
   | some (.bp t' _ _)=>if t'=t then some (.p k o,st) else none
   | _=>none) else none
  | _=>none
 | .aq t x y=>d.bind fun d=>match st.ev y with
  | .s l=>(consume E st t x).bind fun r=>
   if decide (r.1.length+l.length≤140737488355328)&&decide (r.1.length+l.length≤maxLen) then some (.o t (r.1++l.map af),r.2.aT (.s d)) else none
  | _=>none
 | .sz x y=>match st.ev x,st.ev y with
  | .p k off,.p k2 o2=>if (Pl.c k off).fq E then (st.box E.dp k).bind fun cs=>match cs[off]? with
    | some (.bp t k' _)=>if k2=k∧o2=off∧k'=k then some (.u,st.aL E.dp k (cs.set off (.bp t k true))) else none
    | _=>none
   else none
  | _,_=>none
 | .tx x=>(st.elems E.dp (st.ev x)).bind fun r=>(bytesOf r.2).bind fun l=>if l=[] then none else some (.s l,st)
 | .sb f x=>match st.ev x with
  | .p k off=>if (Pl.c k (off+1)).fq E then (st.box E.dp k).bind fun cs=>match cs[off+1]? with
    | some (.o t es)=>(Ω f [.u,.u,.i .i64 t]).bind fun z=>match z with
     | .s []=>(bytesOf es).bind fun l=>if l=[] then none else some (.s l,(st.aT (.c k (off+1))).aL E.dp k (cs.set (off+1) .u))
     | _=>none
    | _=>none
   else none
  | _=>none
def put(st:St)(d:Option Nat)(x:AV):St:=
 match d with
 | some d=>st.b5 d x
 | none=>st
def wX:AV→Bool→Option Bool
 | .b x,want=>some (x==want)
 | .sk,_=>some false
 | _,_=>none
def eh:Bool→AV→AV
 | true,.o t es=>.l t es
 | _,x=>x
def fu(R:Rec)(Ω:cI)(E:Env)(st:St)(g:cL):Option St:=
 match g.g with
 | none=>(execOp R Ω E st g.d g.o).bind fun r=>some (put r.2 g.d (eh g.fz r.1))
 | some (j,want)=>(wX (an st.fr j) want).bind fun y=>
  if y=true then (execOp R Ω E st g.d g.o).bind fun r=>some (put r.2 g.d (eh g.fz r.1)) else some (put st g.d .sk)
def jw(R:Rec)(Ω:cI)(E:Env):St→List cL→Option St
 | st,[]=>some st
 | st,g::gs=>(fu R Ω E st g).bind fun st'=>jw R Ω E st' gs
def hZ(fr:List (Nat×AV))(ks:List Nat):List (Nat×AV):=ks.map fun k=>(k,an fr k)
def cg(bx:List (Nat×List AV)):List Nat→List (Nat×List AV)
 | []=>[]
 | k::ks=>match az bx k with
  | some cs=>(k,cs)::cg bx ks
  | none=>cg bx ks
def St.bw(st:St)(kf kb:List Nat):St:={st with fr:=hZ st.fr kf,bx:=cg st.bx kb}
def view(p:bI)(s:St):St:=⟨hZ s.fr p.vw,cg s.bx p.vb,if p.vh=true then s.hp else fun _=>none⟩
def NN:AV→Bool
 | .u=>true
 | _=>false
def LB:AV→Bool
 | .o _ _=>true
 | _=>false
def gx(v:St):lJ→Bool
 | .as x=>(v.ev x).copy
 | .mv x=>!NN (v.ev x)
 | .ap _ _ _ x _=>match v.ev x with
  | .o _ _=>true
  | .n=>true
  | .r (.c _ _)=>true
  | _=>false
 | .st _ x y=>((v.ev y).copy||LB (v.ev y))&&match v.ev x with
  | .p _ _=>true
  | _=>false
 | _=>true
def Bt:AV→Bool
 | .r (.c _ _)=>true
 | _=>false
def kj(dp:Nat)(p:bI)(v:St):Bool:=
 match p.p.o with
 | .st _ x y=>!LB (v.ev y)||(match v.ev x with
  | .p k _=>decide (k.dp=dp)&&p.vb==[k.d]&&(match y with
   | .t m=>p.cs==[m]
   | .c _=>false)
  | _=>false)
 | .ap _ _ _ x _=>Bt (v.ev x)==(p.cs.length==2)
 | _=>true
def fG(k:Key):AV→Bool
 | .r (.c k' _)=>decide (k'=k)
 | .v (.c k' _) _ _=>decide (k'=k)
 | .q (.c k' _) _ _ _=>decide (k'=k)
 | _=>false
def cU(dp:Nat)(mk:List Nat)(x:AV):Bool:=mk.all fun h=>x.bn ⟨dp,h⟩&&!x.cG (.s h)
def okB(dp:Nat)(nb:List Nat)(x:AV):Bool:=(nb.all fun h=>!fG ⟨dp,h⟩ x)&&(!nb.contains 1000000||!sF x)
structure bm where
 fr:List (Nat×AV)
 nb:List (Nat×List AV)
 wb:List (Nat×List AV)
 hp:Option HP
def pB(bx:List (Nat×List AV)):List (Nat×List AV)→List (Nat×List AV)
 | []=>bx
 | (b,cs)::r=>hY (pB bx r) b cs
def bm.app(q:bm)(s:St):St:=⟨q.fr++s.fr,q.nb++pB s.bx q.wb,q.hp.getD s.hp⟩
def fZ(d:Option Nat)(x:AV):List (Nat×AV):=
 match d with
 | some d=>[(d,x)]
 | none=>[]
def effect(p:bI)(r:AV×St):bm:=
 match p.p.o with
 | .al zs=>match p.p.d with
  | some d=>⟨[(d,r.1)],[(d,zs)],[],none⟩
  | none=>⟨[],[],[],none⟩
 | .st _ _ _=>⟨p.cs.map (fun m=>(m,.u)),[],cg r.2.bx p.vb,if p.vh=true then some r.2.hp else none⟩
 | .ap _ _ _ _ _=>⟨fZ p.p.d (eh p.p.fz r.1)++p.cs.map (fun m=>(m,.u)),[],if (p.cs.length==2)=true then cg r.2.bx p.vb else [],if (p.cs.length==2&&p.vh)=true then some r.2.hp else none⟩
 | _=>⟨fZ p.p.d (eh p.p.fz r.1)++p.cs.map (fun m=>(m,.u)),[],[],none⟩
def ib(R:Rec)(Ω:cI)(E:Env)(p:bI)(v:St):Option bm:=
 if (gx v p.p.o&&kj E.dp p v)=true then (execOp R Ω E v p.p.d p.p.o).bind fun r=>if (cU E.dp p.nk r.1&&okB E.dp p.nb r.1)=true then some (effect p r) else none else none
def cM(R:Rec)(Ω:cI)(E:Env)(p:bI)(s:St):Option bm:=
 match p.p.g with
 | none=>ib R Ω E p (view p s)
 | some (j,want)=>(wX (an s.fr j) want).bind fun y=>if y=true then ib R Ω E p (view p s) else some ⟨fZ p.p.d .sk,[],[],none⟩
def cN(R:Rec)(Ω:cI)(E:Env)(s:St)(p:bI):Option St:=
 if p.lt=true then (cM R Ω E p s).bind fun q=>some (q.app s) else fu R Ω E s p.p
def oy(R:Rec)(Ω:cI)(E:Env):St→List bI→Option St
 | st,[]=>some st
 | st,p::ps=>(cN R Ω E st p).bind fun st'=>oy R Ω E st' ps
def qp:lJ→List Nat→Bool
 | .st _ _ _,cs=>!cs.isEmpty
 | _,_=>false
def Ab(dp:Nat)(st:St)(p:bI):Bool:=!qp p.p.o p.cs||p.vb.all fun h=>st.fr.all fun y=>!fG ⟨dp,h⟩ y.2
def ez(dp:Nat)(st:St)(h:Nat):Bool:=(az st.bx h).isNone&&st.fr.all (fun y=>y.2.bn ⟨dp,h⟩&&!y.2.cG (.s h))&&st.bx.all (fun y=>AV.bY ⟨dp,h⟩ y.2)
def fy(E:Env)(st:St):tN→Option St
 | .own d t=>match an st.fr d with
  | .n=>some ((st.aT (.s d)).b5 d (.o t []))
  | .o _ _=>some st
  | _=>none
 | .fz d=>match an st.fr d with
  | .o t es=>some (st.b5 d (.l t es))
  | _=>none
 | .ownC d off t=>match an st.fr d with
  | .p k o=>if (Pl.c k (o+off)).fq E then
    (st.box E.dp k).bind fun cs=>match cs[o+off]? with
     | some .n=>some ((st.aT (.c k (o+off))).aL E.dp k (cs.set (o+off) (.o t [])))
     | some (.o _ _)=>some st
     | _=>none
   else none
  | _=>none
 | .fzC d off=>match an st.fr d with
  | .p k o=>if (Pl.c k (o+off)).fq E then
    (st.box E.dp k).bind fun cs=>match cs[o+off]? with
     | some (.o t es)=>some (st.aL E.dp k (cs.set (o+off) (.l t es)))
     | some (.l _ _)=>some st
     | _=>none
   else none
  | _=>none
 | .fzB d agg=>match an st.fr d with
  | .p k 0=>if k.dp=E.dp then
    (az st.bx k.d).bind fun cs=>if AV.b7 cs then
      if agg then some {(st.b5 d (.e (.a cs) 0)) with bx:=st.bx.filter fun y=>y.1 !=k.d}
      else match cs with
       | [c]=>some {(st.b5 d (.e c 0)) with bx:=st.bx.filter fun y=>y.1 !=k.d}
       | _=>none
     else none
   else none
  | _=>none
def rZ(E:Env):St→List tN→Option St
 | st,[]=>some st
 | st,p::ps=>(fy E st p).bind fun st'=>rZ E st' ps
def St.kM(dp:Nat)(st:St):AV→Option AV
 | .o t es=>some (.l t es)
 | .r (.s d)=>(st.rowAt dp (.s d)).bind fun r=>some (.l r.1 r.2)
 | .r (.c k off)=>if k.dp=dp then (st.rowAt dp (.c k off)).bind fun r=>some (.l r.1 r.2) else none
 | .v (.s d) lo len=>(st.rowAt dp (.s d)).bind fun r=>if lo+len≤r.2.length then some (.l r.1 ((r.2.drop lo).take len)) else none
 | .w _ _ _=>none
 | .bp _ _ _=>none
 | x=>some x
def St.Bu(dp:Nat)(st:St):List AV→Option (List AV)
 | []=>some []
 | x::xs=>(st.kM dp x).bind fun y=>(st.Bu dp xs).bind fun ys=>some (y::ys)
def St.ur(E:Env)(st:St):RV→Option AV
 | .t n=>st.kM E.dp (an st.fr n)
 | .c n sz=>match an st.fr n with
  | .p k off=>if k.dp=E.dp then
    (az st.bx k.d).bind fun cs=>(pick sz off cs).bind fun y=>match y with
     | .a ds=>(st.Bu E.dp ds).bind fun ds=>some (.a ds)
     | y=>st.kM E.dp y
   else none
  | _=>none
def St.oa(E:Env)(st:St):List RV→Option (List AV)
 | []=>some []
 | x::xs=>(st.ur E x).bind fun y=>(st.oa E xs).bind fun ys=>some (y::ys)
def Hq:List AV→AV
 | [x]=>x
 | xs=>.tp xs
def St.result(E:Env)(st:St)(rs:List RV):Option AV:=
 (st.oa E rs).bind fun xs=>if AV.b7 xs then some (Hq xs) else none
def su:AV→Bool
 | .o _ _=>true
 | x=>x.pure
def St.yg(E:Env)(st:St):List RV→Option (List AV)
 | [.t n]=>match an st.fr n with
  | .p k 0=>if k.dp=E.dp then (az st.bx k.d).bind fun cs=>if cs.all su then some cs else none else none
  | _=>none
 | _=>none
def St.end_(E:Env)(st:St)(rs:List RV):Option aZ:=
 match st.result E rs with
 | some x=>some (.ret x)
 | none=>(st.yg E rs).map .new
def kN:Nat→List AV→List (Nat×AV)
 | _,[]=>[]
 | i,x::xs=>(i,x)::kN (i+1) xs
def ic(G:qn)(X:Env→AC→St→Option (aK×St)):Rec:=fun E f args hp=>
 (G f).bind fun fn=>(X E fn.code ⟨kN 0 args,[],hp⟩).bind fun r=>match r.1 with
  | .ex _=>none
  | _=>(r.2.end_ E fn.res).bind fun x=>some (x,r.2.hp)
def sG(k:St→Option (aK×St))(r:aK×St):Option (aK×St):=
 match r.1 with
 | .nrm=>k r.2
 | e=>some (e,r.2)
def inBlock(id:Nat)(r:aK×St):Option (aK×St):=
 match r.1 with
 | .ex id'=>if id'=id then some (.nrm,r.2) else some (.ex id',r.2)
 | e=>some (e,r.2)
def exec(G:qn)(Ω:cI):Nat→Env→AC→St→Option (aK×St)
 | 0,_,_,_=>none
 | n+1,E,c,st=>
  match c with
  | .sk=>some (.nrm,st)
  | .rg pre ops kf kb=>(rZ E st pre).bind fun st1=>(jw (ic G (exec G Ω n)) Ω E st1 ops).bind fun st2=>some (.nrm,st2.bw kf kb)
  | .dg pre mks ops kf kb=>(rZ E st pre).bind fun st1=>if (mks.all (ez E.dp st1)&&ops.all (Ab E.dp st1))=true then
    (oy (ic G (exec G Ω n)) Ω E st1 ops).bind fun st2=>some (.nrm,st2.bw kf kb) else none
  | .sq x y=>(exec G Ω n E x st).bind (sG fun st1=>exec G Ω n E y st1)
  | .ite c x y=>(q7 (st.ev c)).bind fun z=>if z=true then exec G Ω n E x st else exec G Ω n E y st
  | .bl id x=>(exec G Ω n E x st).bind (inBlock id)
  | .lp x=>(exec G Ω n E x st).bind (sG fun st1=>exec G Ω n E (.lp x) st1)
  | .ex id=>some (.ex id,st)
  | .rt=>some (.ret,st)
  | .kp kf kb x=>exec G Ω n E x (st.bw kf kb)
  | .bad=>none
end Go.Proofs.YtogbakbmphadfaaGreatDoor.A
