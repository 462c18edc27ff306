/- The abstract run: what the operations, the commands and the calls of the program do with abstract values. A run that this text does not follow answers none. -/
import Derived.Test.YtndeklbmglgonaaGreatAbs1
set_option linter.unusedSectionVars false
set_option linter.unusedVariables false
set_option linter.unusedSimpArgs false
set_option linter.constructorNameAsVariable false
namespace Go.Proofs.YtndeklbmglgonaaGreat.A
open Go
abbrev HP:=Key→Option (List AV)
structure St where
 fr:List (Nat×AV)
 bx:List (Nat×List AV)
 hp:HP
structure Env where
 dp:Nat
 ro:Bool
def aC:List (Nat×AV)→Nat→AV
 | [],_=>.u
 | (k,x)::r,d=>if k=d then x else aC r d
def aP:List (Nat×List AV)→Nat→Option (List AV)
 | [],_=>none
 | (k,x)::r,d=>if k=d then some x else aP r d
def iU:List (Nat×List AV)→Nat→List AV→List (Nat×List AV)
 | [],_,_=>[]
 | (k,x)::r,d,y=>if k=d then (k,y)::r else (k,x)::iU r d y
def ad(hp:HP)(k:Key)(cs:List AV):HP:=fun k'=>if k'=k then some cs else hp k'
def St.ct(st:St)(d:Nat)(x:AV):St:={st with fr:=(d,x)::st.fr}
def St.box(dp:Nat)(st:St)(k:Key):Option (List AV):=if k.dp=dp then aP st.bx k.d else st.hp k
def St.aX(dp:Nat)(st:St)(k:Key)(cs:List AV):St:=
 if k.dp=dp then {st with bx:=iU st.bx k.d cs} else {st with hp:=ad st.hp k cs}
def St.bw(st:St)(pl:Pl):St:={st with fr:=st.fr.map fun x=>(x.1,if x.2.bI pl=true then .u else x.2)}
def qU:AV→Option Bool
 | .b x=>some x
 | _=>none
def ze:AV→Bool
 | .r _=>true
 | .v _ _ _=>true
 | .q _ _ _ _=>true
 | .w _ _ _=>true
 | _=>false
def St.rowAt(dp:Nat)(st:St):Pl→Option (TypeId×List AV)
 | .s d=>match aC st.fr d with
  | .o t es=>some (t,es)
  | _=>none
 | .c k off=>match st.box dp k with
  | some cs=>match cs[off]? with
   | some (.o t es)=>some (t,es)
   | _=>none
  | none=>none
def St.putAt(dp:Nat)(st:St)(x:AV):Pl→Option St
 | .s d=>some (st.ct d x)
 | .c k off=>match st.box dp k with
  | some cs=>some (st.aX dp k (cs.set off x))
  | none=>none
def Pl.gi(E:Env):Pl→Bool
 | .s _=>true
 | .c k _=>decide (k.dp=E.dp)||!E.ro
inductive bp where
 | t (n:Nat)
 | c (x:AV)
def St.ev(st:St):bp→AV
 | .t n=>aC st.fr n
 | .c x=>x
def St.elems(dp:Nat)(st:St):AV→Option (TypeId×List AV)
 | .l t es=>some (t,es)
 | .n=>some (0,[])
 | .o t es=>some (t,es)
 | .r pl=>st.rowAt dp pl
 | .v pl lo len=>match st.rowAt dp pl with
  | some (t,es)=>if lo+len≤es.length then some (t,(es.drop lo).take len) else none
  | none=>none
 | _=>none
def pick(n:Option Nat)(off:Nat)(cs:List AV):Option AV:=
 match n with
 | none=>cs[off]?
 | some m=>if off+m≤cs.length then some (.a ((cs.drop off).take m)) else none
def bS(cs:List AV)(off:Nat)(ys:List AV):List AV:=cs.take off++ys++cs.drop (off+ys.length)
def BM(x:AV):List AV→AV
 | [y]=>y
 | _=>x
def vn(e:AV)(off:Nat)(ys:List AV):AV:=
 match e with
 | .a cs=>.a (bS cs off ys)
 | x=>BM x ys
def px(op:BinOp)(k:IntKind)(a b:Int):Option AV:=
 match op with
 | .add=>some (.i k (k.wrap (a+b)))
 | .sub=>some (.i k (k.wrap (a - b)))
 | .mul=>some (.i k (k.wrap (a*b)))
 | .quo=>if b=0 then none else some (.i k (k.wrap (a.tdiv b)))
 | .rem=>if b=0 then none else some (.i k (a.tmod b))
 | .eql=>some (.b (a==b))
 | .neq=>some (.b (a !=b))
 | .lss=>some (.b (decide (a<b)))
 | .leq=>some (.b (decide (a≤b)))
 | .gtr=>some (.b (decide (b<a)))
 | .geq=>some (.b (decide (b≤a)))
 | _=>none
def oo(op:BinOp)(bl:Bool)(x y:AV):Option AV:=
 match x,y with
 | .i k a,.i k' b=>if k=k' then px op k a b else none
 | .b a,.b b=>if bl then match op with
  | .eql=>some (.b (a==b))
  | .neq=>some (.b (!(a==b)))
  | _=>none
  else none
 | .s a,.s b=>match op with
  | .add=>if a.length+b.length≤4611686018427387904 then some (.s (a++b)) else none
  | .eql=>some (.b (a==b))
  | .neq=>some (.b (!(a==b)))
  | _=>none
 | _,_=>none
inductive pe where
 | mv (x:bp)
 | as (x:bp)
 | pk (c x y:bp)
 | bx (x:bp)
 | al (zs:List AV)
 | ld (n:Option Nat) (x:bp)
 | st (n:Nat) (x y:bp)
 | fa (off:Nat) (x:bp)
 | fd (n:Option Nat) (off:Nat) (x:bp)
 | ia (sz:Nat) (arr:Option Nat) (x i:bp)
 | ix (x i:bp)
 | bo (op:BinOp) (bl:Bool) (x y:bp)
 | no (x:bp)
 | ng (x:bp)
 | cv (k:IntKind) (x:bp)
 | cs (x:bp)
 | ae (ks:List Nat) (ng:Bool) (x y:bp)
 | bs (t sz:Nat) (es:List bp)
 | bd (zs:List AV) (fs:List (Nat×Nat×bp))
 | ms (t sz:Nat) (by_:Nat) (x:AV) (n:bp)
 | sl (t sz:Nat) (x:bp) (lo hi:Option bp)
 | ex (x:bp) (i:Nat)
 | mf (f:FuncId) (caps:List bp)
 | ca (m:Nat) (f:FuncId) (args:List bp)
 | cf (m:Nat) (x:bp) (args:List bp)
 | c2 (f:FuncId) (args:List bp)
 | d2 (x:bp) (args:List bp)
 | c3 (f:FuncId) (args:List bp)
 | d3 (x:bp) (args:List bp)
 | cn (f:FuncId) (args:List bp)
 | cr (t:Nat) (f:FuncId) (args:List bp)
 | ln (str:Bool) (x:bp)
 | ap (t sz:Nat) (by_:Nat) (x y:bp)
 | nc (x:bp)
 | cw (t:TypeId) (f:FuncId) (args:List bp)
 | xw (x:bp) (i:Nat)
 | sw (n:Nat) (x y:bp)
 | lw (n:Nat) (x:bp)
 | sp (f:FuncId) (x:bp)
 | vi (g f:FuncId) (args:List bp)
structure cK where
 d:Option Nat
 o:pe
 g:Option (Nat×Bool):=none
 fz:Bool:=false
structure cp where
 p:cK
 lt:Bool
 vw:List Nat
 vb:List Nat
 vh:Bool
 cs:List Nat
 nk:List Nat
 nb:List Nat
inductive bh where
 | ret (x:AV)
 | new (cs:List AV)
inductive aJ where
 | nrm
 | ex (id:Nat)
 | ret
inductive tO where
 | own (d:Nat) (t:TypeId)
 | fz (d:Nat)
 | ownC (d off:Nat) (t:TypeId)
 | fzC (d off:Nat)
 | fzB (d:Nat) (agg:Bool)
inductive AC where
 | sk
 | rg (pre:List tO) (ops:List cK) (kf kb:List Nat)
 | dg (pre:List tO) (mks:List Nat) (ops:List cp) (kf kb:List Nat)
 | sq (x y:AC)
 | ite (c:bp) (x y:AC)
 | bl (id:Nat) (x:AC)
 | lp (x:AC)
 | ex (id:Nat)
 | rt
 | kp (kf kb:List Nat) (x:AC)
 | bad
inductive RV where
 | t (n:Nat)
 | c (n:Nat) (sz:Option Nat)
structure bG where
 code:AC
 res:List RV
abbrev p8:=FuncId→Option bG
abbrev cP:=FuncId→List AV→Option AV
abbrev Rec:=Env→FuncId→List AV→HP→Option (bh×HP)
def St.lI(dp:Nat)(st:St)(x:AV):Option (AV×List TypeId):=
 match x with
 | .o t es=>some (.l t es,[t])
 | .r pl=>(st.rowAt dp pl).bind fun r=>some (.l r.1 r.2,[r.1])
 | .v pl lo len=>(st.rowAt dp pl).bind fun r=>if lo+len≤r.2.length then some (.l r.1 ((r.2.drop lo).take len),[r.1]) else none
 | .w _ t x=>some (x,[t])
 | x=>if x.pure then some (x,[]) else none
def St.eu(dp:Nat)(st:St):List AV→Option (List AV×List TypeId)
 | []=>some ([],[])
 | x::xs=>(st.lI dp x).bind fun y=>(st.eu dp xs).bind fun ys=>some (y.1::ys.1,y.2++ys.2)
def fN(R:Rec)(Ω:cP)(E:Env)(st:St)(m:Nat)(f:FuncId)(args:List AV):Option (AV×St):=
 match m with
 | 0=>(st.eu E.dp args).bind fun ys=>(R ⟨0,false⟩ f ys.1 (fun _=>none)).bind fun r=>match r.1 with
  | .ret x=>if x.pure&&(ys.2.isEmpty||x.off ys.2) then some (x,st) else none
  | .new _=>none
 | 1=>(st.eu E.dp args).bind fun ys=>(Ω f ys.1).bind fun x=>if x.pure&&(ys.2.isEmpty||x.off ys.2) then some (x,st) else none
 | _=>none
def xr:AV→Bool
 | .r (.c _ _)=>true
 | .v (.c _ _) _ _=>true
 | .q (.c _ _) _ _ _=>true
 | _=>false
def py(dp:Nat)(hp:HP):List (Nat×List AV)→List (Nat×List AV)
 | []=>[]
 | (d,_)::r=>match hp ⟨dp,d⟩ with
  | some cs=>(d,cs)::py dp hp r
  | none=>py dp hp r
def St.back(dp:Nat)(st:St)(hp:HP):St:=
 ⟨st.fr.map fun x=>(x.1,if xr x.2=true then .u else x.2),py dp hp st.bx,fun k=>if k.dp<dp then hp k else none⟩
def AV.Lj:AV→Bool
 | .o _ _=>true
 | .r _=>true
 | .v _ _ _=>true
 | x=>x.pure
def kB(R:Rec)(Ω:cP)(E:Env)(st:St)(f:FuncId)(args:List AV):Option (AV×St):=
 if args.all AV.Lj=true then fN R Ω E st 0 f args
 else if (!E.ro&&args.all AV.copy&&st.bx.all fun y=>AV.b6 E.dp y.2)=true then
  (R ⟨E.dp+1,false⟩ f args (fun k=>st.box E.dp k)).bind fun r=>match r.1 with
   | .ret x=>some (x,st.back E.dp r.2)
   | .new _=>none
 else none
def kC(R:Rec)(E:Env)(st:St)(f:FuncId)(args:List AV):Option (AV×St):=
 if (args.all AV.copy&&st.bx.all fun y=>AV.b6 E.dp y.2)=true then
  (R ⟨E.dp+1,true⟩ f args (fun k=>st.box E.dp k)).bind fun r=>match r.1 with
   | .ret x=>if x.pure=true then some (x,st) else none
   | .new _=>none
 else none
def BN(dp:Nat)(st:St)(d:Nat):Bool:=(aP st.bx d).isNone&&st.fr.all (fun y=>y.2.aQ ⟨dp,d⟩)&&st.bx.all (fun y=>AV.aN ⟨dp,d⟩ y.2)
def uK(R:Rec)(E:Env)(st:St)(d:Nat)(f:FuncId)(args:List AV):Option (AV×St):=
 if (!E.ro&&args.all AV.copy&&st.bx.all fun y=>AV.b6 E.dp y.2)=true then
  (R ⟨E.dp+1,false⟩ f args (fun k=>st.box E.dp k)).bind fun r=>match r.1 with
   | .ret _=>none
   | .new cs=>if BN E.dp (st.back E.dp r.2) d=true then some (.p ⟨E.dp,d⟩ 0,{(st.back E.dp r.2) with bx:=(d,cs)::(st.back E.dp r.2).bx}) else none
 else none
def Dd(Ω:cP)(st:St)(d:Nat)(t:TypeId)(f:FuncId)(args:List AV):Option (AV×St):=
 if AV.cq args=true then (Ω f args).bind fun x=>match x with
  | .o t' []=>if t'=t then some (.o t [],st.bw (.s d)) else none
  | _=>none
 else none
def AV.uj(t:TypeId):AV→Option AV
 | .l t' es=>if AV.sC [t] es=true then some (.l (if t'=t then 0 else t') es) else none
 | x=>if (x.pure&&x.off [t])=true then some x else none
def AV.Iu(t:TypeId):List AV→Option (List AV)
 | []=>some []
 | x::xs=>(AV.uj t x).bind fun y=>(AV.Iu t xs).bind fun ys=>some (y::ys)
def AV.HR(t:TypeId):AV→Option AV
 | .a cs=>(AV.Iu t cs).map .a
 | x=>AV.uj t x
def AV.Iv(t:TypeId):List AV→Option (List AV)
 | []=>some []
 | x::xs=>(AV.HR t x).bind fun y=>(AV.Iv t xs).bind fun ys=>some (y::ys)
mutual
def AV.kT(t:TypeId):AV→Bool
 | .a cs=>AV.qV t cs
 | .tp cs=>AV.qV t cs
 | .f _ cs=>AV.qV t cs
 | .ifc _ x=>AV.kT t x
 | .l t' es=>es.isEmpty||(t'==t&&AV.qV t es)
 | .e _ _=>false
 | _=>true
def AV.qV(t:TypeId):List AV→Bool
 | []=>true
 | x::xs=>AV.kT t x&&AV.qV t xs
end
def De(R:Rec)(st:St)(d:Nat)(t:TypeId)(f:FuncId)(args:List AV):Option (AV×St):=
 if (t !=0&&AV.cq args)=true then (AV.Iv t args).bind fun ys=>(R ⟨0,false⟩ f ys (fun _=>none)).bind fun r=>match r.1 with
  | .ret x=>if (x.pure&&AV.kT t x)=true then some (.w d t x,st) else none
  | .new _=>none
 else none
def HS(R:Rec)(Ω:cP)(E:Env)(st:St)(g f:FuncId)(args:List AV):Option (AV×St):=
 (Ω f [.u,.i .i64 g]).bind fun z=>match z with
  | .u=>if (!E.ro&&args.all AV.copy&&st.bx.all fun y=>AV.b6 E.dp y.2)=true then
    (R ⟨E.dp+1,false⟩ g args (fun k=>st.box E.dp k)).bind fun r=>match r.1 with
     | .ret x=>some (.tp [x,.i .i64 0,.i .i64 0],st.back E.dp r.2)
     | .new _=>none
   else none
  | _=>none
def BO(g:Nat)(t:TypeId):AV→AV
 | .i k n=>.i k n
 | .b x=>.b x
 | x=>.w g t x
def Fm(g:Nat)(t:TypeId):List AV→Option (List AV)
 | []=>some []
 | .w g' t' x::xs=>if g'=g∧t'=t then (Fm g t xs).bind fun ys=>some (x::ys) else none
 | _::_=>none
def NC:List AV→Option (Nat×TypeId×List AV)
 | .w g t x::xs=>(Fm g t (.w g t x::xs)).bind fun ys=>some (g,t,ys)
 | _=>none
def AV.Al(g:Nat):AV→AV
 | .w g' t x=>if g'=g then .u else .w g' t x
 | x=>x
def St.pz(st:St)(g:Nat):St:={st with fr:=st.fr.map (fun x=>(x.1,x.2.Al g)),bx:=st.bx.map (fun x=>(x.1,x.2.map (AV.Al g)))}
def lT:AV→Option Nat
 | .i _ n=>if 0≤n then some n.toNat else none
 | _=>none
def kU(st:St)(x:Option bp)(dflt:Nat):Option Nat:=
 match x with
 | none=>some dflt
 | some y=>lT (st.ev y)
def consume(E:Env)(st:St)(t:TypeId):bp→Option (List AV×St)
 | .c .n=>some ([],st)
 | .c _=>none
 | .t m=>match aC st.fr m with
  | .n=>some ([],st)
  | .o t' es=>if t'=t then some (es,st.ct m .u) else none
  | .r pl=>if pl.gi E then (st.rowAt E.dp pl).bind fun r=>if r.1=t then (st.putAt E.dp .u pl).bind fun st'=>some (r.2,st') else none else none
  | .v pl lo len=>if pl.gi E&&lo==0 then
    (st.rowAt E.dp pl).bind fun r=>if len≤r.2.length∧r.1=t then (st.putAt E.dp .u pl).bind fun st'=>some (r.2.take len,st') else none
   else none
  | _=>none
def elemAt(sz:Nat)(st:St)(e:Option AV)(x:AV→AV):Option (AV×St):=
 e.bind fun e=>if e.nc=sz then some (x e,st) else none
def fD:List Nat→List AV→List AV→Option Bool
 | [],[],[]=>some true
 | 0::ks,.b m::xs,.b n::ys=>(fD ks xs ys).map fun r=>(m==n)&&r
 | 1::ks,.i k m::xs,.i k' n::ys=>if k=k' then (fD ks xs ys).map fun r=>(m==n)&&r else none
 | 2::ks,.s m::xs,.s n::ys=>(fD ks xs ys).map fun r=>(m==n)&&r
 | _,_,_=>none
def execOp(R:Rec)(Ω:cP)(E:Env)(st:St)(d:Option Nat):pe→Option (AV×St)
 | .mv x=>match st.ev x with
  | .o _ _=>match x with
   | .t n=>some (.r (.s n),st)
   | .c _=>none
  | y=>some (y,st)
 | .as x=>match x with
  | .c y=>if y.pure then some (y,st) else none
  | .t n=>match aC st.fr n with
   | .o t es=>d.bind fun d=>some (.o t es,(st.ct n .u).bw (.s d))
   | .v pl lo len=>d.bind fun d=>
    if pl= .s d&&lo==0 then (st.rowAt E.dp pl).bind fun r=>if len≤r.2.length then some (.o r.1 (r.2.take len),st.bw (.s d)) else none
    else some (.v pl lo len,st)
   | y=>if y.copy||ze y then some (y,st) else none
 | .pk c x y=>(qU (st.ev c)).bind fun z=>
  if z=true then (if (st.ev x).copy then some (st.ev x,st) else none) else (if (st.ev y).copy then some (st.ev y,st) else none)
 | .bx x=>d.bind fun d=>
  let cs:=(st.ev x).cl
  if (st.ev x).copy&&cs.all AV.one&&(st.ev x).deep E.dp&&(aP st.bx d).isNone&&st.fr.all (fun y=>y.2.aQ ⟨E.dp,d⟩)&&st.bx.all (fun y=>AV.aN ⟨E.dp,d⟩ y.2)
  then some (.p ⟨E.dp,d⟩ 0,{st with bx:=(d,cs)::st.bx}) else none
 | .al zs=>d.bind fun d=>
  if (aP st.bx d).isNone&&st.fr.all (fun y=>y.2.aQ ⟨E.dp,d⟩)&&st.bx.all (fun y=>AV.aN ⟨E.dp,d⟩ y.2)
  then some (.p ⟨E.dp,d⟩ 0,{st with bx:=(d,zs)::st.bx}) else none
 | .ld n x=>match st.ev x with
  | .p k off=>(st.box E.dp k).bind fun cs=>(pick n off cs).bind fun y=>match y with
   | .o _ _=>some (.r (.c k off),st)
   | y=>if y.copy then some (y,st) else none
  | .e x off=>(pick n off x.cl).bind fun y=>some (y,st)
  | .q pl i sz off=>(st.rowAt E.dp pl).bind fun r=>(r.2[i]?).bind fun e=>if e.nc=sz then (pick n off e.cl).bind fun y=>some (y,st) else none
  | _=>none
 | .st n x y=>match st.ev x with
  | .p k off=>
   if (Pl.c k off).gi E then
    (st.box E.dp k).bind fun cs=>match st.ev y with
    | .o t es=>match y with
     | .t m=>if n==1&&decide (off<cs.length) then some (.u,(((st.ct m .u).bw (.c k off)).aX E.dp k (cs.set off (.o t es)))) else none
     | _=>none
    | .v pl lo len=>
     if pl= .c k off&&lo==0&&n==1 then (st.rowAt E.dp pl).bind fun r=>if len≤r.2.length then some (.u,(st.bw (.c k off)).aX E.dp k (cs.set off (.o r.1 (r.2.take len)))) else none
     else none
    | y=>if y.copy&&y.nc==n&&y.cl.all AV.one&&y.deep k.dp&&decide (off+n≤cs.length) then some (.u,st.aX E.dp k (bS cs off y.cl)) else none
   else none
  | .q pl i sz off=>
   if pl.gi E then
    (st.rowAt E.dp pl).bind fun r=>(r.2[i]?).bind fun e=>
     if e.nc==sz&&(st.ev y).pure&&(st.ev y).nc==n&&(st.ev y).cl.all AV.one&&decide (off+n≤sz) then
      (st.putAt E.dp (.o r.1 (r.2.set i (vn e off (st.ev y).cl))) pl).bind fun st'=>some (.u,st')
     else none
   else none
  | _=>none
 | .fa off x=>match st.ev x with
  | .p k o=>some (.p k (o+off),st)
  | .e y o=>some (.e y (o+off),st)
  | .q pl i sz o=>(st.rowAt E.dp pl).bind fun r=>if i<r.2.length then some (.q pl i sz (o+off),st) else none
  | _=>none
 | .fd n off x=>match st.ev x with
  | .a cs=>(pick n off cs).bind fun y=>some (y,st)
  | _=>none
 | .ia sz arr x i=>(lT (st.ev i)).bind fun j=>match arr with
  | some len=>if j<len then
    match st.ev x with
    | .p k o=>some (.p k (o+j*sz),st)
    | .e y o=>some (.e y (o+j*sz),st)
    | _=>none
   else none
  | none=>match st.ev x with
   | .l _ es=>elemAt sz st es[j]? fun e=>.e e 0
   | .o _ es=>match x with
    | .t m=>elemAt sz st es[j]? fun _=>.q (.s m) j sz 0
    | _=>none
   | .r pl=>(st.rowAt E.dp pl).bind fun r=>elemAt sz st r.2[j]? fun _=>.q pl j sz 0
   | .v pl lo len=>if j<len then (st.rowAt E.dp pl).bind fun r=>if lo+len≤r.2.length then elemAt sz st r.2[lo+j]? fun _=>.q pl (lo+j) sz 0 else none else none
   | _=>none
 | .ix x i=>match st.ev x with
  | .s l=>(lT (st.ev i)).bind fun j=>(l[j]?).bind fun c=>some (.i .u8 c.toNat,st)
  | _=>none
 | .bo op bl x y=>(oo op bl (st.ev x) (st.ev y)).bind fun r=>some (r,st)
 | .no x=>(qU (st.ev x)).bind fun y=>some (.b (!y),st)
 | .ng x=>match st.ev x with
  | .i k n=>some (.i k (k.wrap (0 - n)),st)
  | _=>none
 | .cv k x=>match st.ev x with
  | .i _ n=>some (.i k (k.wrap n),st)
  | _=>none
 | .cs x=>match st.ev x with
  | .i _ n=>if 0≤n∧n<128 then some (.s [UInt8.ofNat n.toNat],st) else none
  | _=>none
 | .ae ks ng x y=>match st.ev x,st.ev y with
  | .a xs,.a ys=>(fD ks xs ys).bind fun r=>some (.b (if ng then !r else r),st)
  | _,_=>none
 | .bs t sz es=>d.bind fun d=>
  let vs:=es.map st.ev
  if vs.all (fun y=>y.pure&&y.cl.all AV.one&&y.nc==sz) then some (.o t vs,st.bw (.s d)) else none
 | .bd zs fs=>
  if fs.all (fun f=>(st.ev f.2.2).copy&&(st.ev f.2.2).nc==f.2.1&&(st.ev f.2.2).cl.all AV.one&&decide (f.1+f.2.1≤zs.length)) then
   some (.a (fs.foldl (fun cs f=>bS cs f.1 (st.ev f.2.2).cl) zs),st) else none
 | .ms t _ by_ x n=>d.bind fun d=>(lT (st.ev n)).bind fun n=>
  if n*by_≤140737488355328&&decide (n≤maxLen) then some (.o t (List.replicate n x),st.bw (.s d)) else none
 | .sl t sz x lo hi=>match st.ev x with
  | .s l=>(kU st lo 0).bind fun a=>(kU st hi l.length).bind fun b=>if t==0&&decide (a≤b)&&decide (b≤l.length) then some (.s ((l.take b).drop a),st) else none
  | .l t' es=>(kU st lo 0).bind fun a=>(kU st hi es.length).bind fun b=>if t !=0&&es.all (fun e=>e.nc==sz)&&decide (a≤b)&&decide (b≤es.length) then some (.l t' ((es.take b).drop a),st) else none
  | .r pl=>(st.rowAt E.dp pl).bind fun r=>(kU st lo 0).bind fun a=>(kU st hi r.2.length).bind fun b=>
   if t !=0&&r.1==t&&decide (a≤b)&&decide (b≤r.2.length) then some (.v pl a (b - a),st) else none
  | _=>none
 | .ex x i=>match st.ev x with
  | .tp vs=>(vs[i]?).bind fun y=>some (y,st)
  | _=>none
 | .mf f caps=>if AV.lS (caps.map st.ev) then some (.f f (caps.map st.ev),st) else none
 | .ca m f args=>fN R Ω E st m f (args.map st.ev)
 | .cf m x args=>match st.ev x with
  | .f f caps=>fN R Ω E st m f (args.map st.ev++caps)
  | _=>none
 | .c2 f args=>kB R Ω E st f (args.map st.ev)
 | .d2 x args=>match st.ev x with
  | .f f caps=>kB R Ω E st f (args.map st.ev++caps)
  | _=>none
 | .c3 f args=>kC R E st f (args.map st.ev)
 | .d3 x args=>match st.ev x with
  | .f f caps=>kC R E st f (args.map st.ev++caps)
  | _=>none
 | .cn f args=>d.bind fun d=>uK R E st d f (args.map st.ev)
 | .cr t f args=>d.bind fun d=>Dd Ω st d t f (args.map st.ev)
 | .ln str x=>match st.ev x with
  | .s l=>if str then some (.i .i64 l.length,st) else none
  | y=>if str then none else (st.elems E.dp y).bind fun r=>some (.i .i64 r.2.length,st)
 | .ap t sz by_ x y=>d.bind fun d=>(st.elems E.dp (st.ev y)).bind fun ys=>(consume E st t x).bind fun r=>
  if ys.2.all (fun e=>e.nc==sz)&&decide ((r.1.length+ys.2.length)*by_≤140737488355328)&&decide (r.1.length+ys.2.length≤maxLen)
  then some (.o t (r.1++ys.2),r.2.bw (.s d)) else none
 | .nc x=>match st.ev x with
  | .p k o=>some (.p k o,st)
  | .e y o=>some (.e y o,st)
  | .q _ _ _ _=>none
  | .f g caps=>some (.f g caps,st)
  | _=>none
 | .cw t f args=>d.bind fun d=>De R st d t f (args.map st.ev)
 | .xw x i=>match st.ev x with
  | .w g t (.tp vs)=>(vs[i]?).bind fun y=>some (BO g t y,st)
  | _=>none
 | .sw n x y=>match st.ev x with
  | .p k off=>if k.dp=E.dp∧off=0 then
    (aP st.bx k.d).bind fun bs=>match st.ev y with
     | .w g t (.a cs)=>if cs.length=n∧n≤bs.length then some (.u,st.aX E.dp k (bS bs 0 (cs.map (.w g t)))) else none
     | _=>none
   else none
  | _=>none
 | .lw n x=>match st.ev x with
  | .p k off=>(st.box E.dp k).bind fun cs=>if off+n≤cs.length then (NC ((cs.drop off).take n)).bind fun y=>if y.2.2.all AV.one=true then some (.w y.1 y.2.1 (.a y.2.2),st) else none else none
  | _=>none
 | .sp f x=>match st.ev x with
  | .w g t y=>(Ω f [y]).bind fun r=>match r with
   | .u=>some (.u,st.pz g)
   | _=>none
  | _=>none
 | .vi g f args=>HS R Ω E st g f (args.map st.ev)
def put(st:St)(d:Option Nat)(x:AV):St:=
 match d with
 | some d=>st.ct d x
 | none=>st
def xt:AV→Bool→Option Bool
 | .b x,want=>some (x==want)
 | .sk,_=>some false
 | _,_=>none
def fk:Bool→AV→AV
 | true,.o t es=>.l t es
 | _,x=>x
def jF(R:Rec)(Ω:cP)(E:Env)(st:St)(g:cK):Option St:=
 match g.g with
 | none=>(execOp R Ω E st g.d g.o).bind fun r=>some (put r.2 g.d (fk g.fz r.1))
 | some (j,want)=>(xt (aC st.fr j) want).bind fun y=>
  if y=true then (execOp R Ω E st g.d g.o).bind fun r=>some (put r.2 g.d (fk g.fz r.1)) else some (put st g.d .sk)
def jx(R:Rec)(Ω:cP)(E:Env):St→List cK→Option St
 | st,[]=>some st
 | st,g::gs=>(jF R Ω E st g).bind fun st'=>jx R Ω E st' gs
def jG(fr:List (Nat×AV))(ks:List Nat):List (Nat×AV):=ks.map fun k=>(k,aC fr k)
def cL(bx:List (Nat×List AV)):List Nat→List (Nat×List AV)
 | []=>[]
 | k::ks=>match aP bx k with
  | some cs=>(k,cs)::cL bx ks
  | none=>cL bx ks
def St.bX(st:St)(kf kb:List Nat):St:={st with fr:=jG st.fr kf,bx:=cL st.bx kb}
def view(p:cp)(s:St):St:=⟨jG s.fr p.vw,cL s.bx p.vb,if p.vh=true then s.hp else fun _=>none⟩
def ND:AV→Bool
 | .u=>true
 | _=>false
def Lk:AV→Bool
 | .o _ _=>true
 | _=>false
def jy(v:St):pe→Bool
 | .as x=>(v.ev x).copy
 | .mv x=>!ND (v.ev x)
 | .ap _ _ _ x _=>match v.ev x with
  | .o _ _=>true
  | .n=>true
  | .r (.c _ _)=>true
  | _=>false
 | .st _ x y=>((v.ev y).copy||Lk (v.ev y))&&match v.ev x with
  | .p _ _=>true
  | _=>false
 | _=>true
def Df:AV→Bool
 | .r (.c _ _)=>true
 | _=>false
def qh(dp:Nat)(p:cp)(v:St):Bool:=
 match p.p.o with
 | .st _ x y=>!Lk (v.ev y)||(match v.ev x with
  | .p k _=>decide (k.dp=dp)&&p.vb==[k.d]&&(match y with
   | .t m=>p.cs==[m]
   | .c _=>false)
  | _=>false)
 | .ap _ _ _ x _=>Df (v.ev x)==(p.cs.length==2)
 | _=>true
def bY(k:Key):AV→Bool
 | .r (.c k' _)=>decide (k'=k)
 | .v (.c k' _) _ _=>decide (k'=k)
 | .q (.c k' _) _ _ _=>decide (k'=k)
 | _=>false
def aR(dp:Nat)(mk:List Nat)(x:AV):Bool:=mk.all fun h=>x.aQ ⟨dp,h⟩&&!x.bI (.s h)
def okB(dp:Nat)(nb:List Nat)(x:AV):Bool:=nb.all fun h=>!bY ⟨dp,h⟩ x
structure bT where
 fr:List (Nat×AV)
 nb:List (Nat×List AV)
 wb:List (Nat×List AV)
 hp:Option HP
def vo(bx:List (Nat×List AV)):List (Nat×List AV)→List (Nat×List AV)
 | []=>bx
 | (b,cs)::r=>iU (vo bx r) b cs
def bT.app(q:bT)(s:St):St:=⟨q.fr++s.fr,q.nb++vo s.bx q.wb,q.hp.getD s.hp⟩
def ij(d:Option Nat)(x:AV):List (Nat×AV):=
 match d with
 | some d=>[(d,x)]
 | none=>[]
def effect(p:cp)(r:AV×St):bT:=
 match p.p.o with
 | .al zs=>match p.p.d with
  | some d=>⟨[(d,r.1)],[(d,zs)],[],none⟩
  | none=>⟨[],[],[],none⟩
 | .st _ _ _=>⟨p.cs.map (fun m=>(m,.u)),[],cL r.2.bx p.vb,if p.vh=true then some r.2.hp else none⟩
 | .ap _ _ _ _ _=>⟨ij p.p.d (fk p.p.fz r.1)++p.cs.map (fun m=>(m,.u)),[],if (p.cs.length==2)=true then cL r.2.bx p.vb else [],if (p.cs.length==2&&p.vh)=true then some r.2.hp else none⟩
 | _=>⟨ij p.p.d (fk p.p.fz r.1)++p.cs.map (fun m=>(m,.u)),[],[],none⟩
def jH(R:Rec)(Ω:cP)(E:Env)(p:cp)(v:St):Option bT:=
 if (jy v p.p.o&&qh E.dp p v)=true then (execOp R Ω E v p.p.d p.p.o).bind fun r=>if (aR E.dp p.nk r.1&&okB E.dp p.nb r.1)=true then some (effect p r) else none else none
def eU(R:Rec)(Ω:cP)(E:Env)(p:cp)(s:St):Option bT:=
 match p.p.g with
 | none=>jH R Ω E p (view p s)
 | some (j,want)=>(xt (aC s.fr j) want).bind fun y=>if y=true then jH R Ω E p (view p s) else some ⟨ij p.p.d .sk,[],[],none⟩
def eV(R:Rec)(Ω:cP)(E:Env)(s:St)(p:cp):Option St:=
 if p.lt=true then (eU R Ω E p s).bind fun q=>some (q.app s) else jF R Ω E s p.p
def oJ(R:Rec)(Ω:cP)(E:Env):St→List cp→Option St
 | st,[]=>some st
 | st,p::ps=>(eV R Ω E st p).bind fun st'=>oJ R Ω E st' ps
def qi:pe→List Nat→Bool
 | .st _ _ _,cs=>!cs.isEmpty
 | _,_=>false
def BP(dp:Nat)(st:St)(p:cp):Bool:=!qi p.p.o p.cs||p.vb.all fun h=>st.fr.all fun y=>!bY ⟨dp,h⟩ y.2
def cJ(dp:Nat)(st:St)(h:Nat):Bool:=(aP st.bx h).isNone&&st.fr.all (fun y=>y.2.aQ ⟨dp,h⟩&&!y.2.bI (.s h))&&st.bx.all (fun y=>AV.aN ⟨dp,h⟩ y.2)
def fO(E:Env)(st:St):tO→Option St
 | .own d t=>match aC st.fr d with
  | .n=>some ((st.bw (.s d)).ct d (.o t []))
  | .o _ _=>some st
  | _=>none
 | .fz d=>match aC st.fr d with
  | .o t es=>some (st.ct d (.l t es))
  | _=>none
 | .ownC d off t=>match aC st.fr d with
  | .p k o=>if (Pl.c k (o+off)).gi E then
    (st.box E.dp k).bind fun cs=>match cs[o+off]? with
     | some .n=>some ((st.bw (.c k (o+off))).aX E.dp k (cs.set (o+off) (.o t [])))
     | some (.o _ _)=>some st
     | _=>none
   else none
  | _=>none
 | .fzC d off=>match aC st.fr d with
  | .p k o=>if (Pl.c k (o+off)).gi E then
    (st.box E.dp k).bind fun cs=>match cs[o+off]? with
     | some (.o t es)=>some (st.aX E.dp k (cs.set (o+off) (.l t es)))
     | _=>none
   else none
  | _=>none
 | .fzB d agg=>match aC st.fr d with
  | .p k 0=>if k.dp=E.dp then
    (aP st.bx k.d).bind fun cs=>if AV.cq cs then
      if agg then some {(st.ct d (.e (.a cs) 0)) with bx:=st.bx.filter fun y=>y.1 !=k.d}
      else match cs with
       | [c]=>some {(st.ct d (.e c 0)) with bx:=st.bx.filter fun y=>y.1 !=k.d}
       | _=>none
     else none
   else none
  | _=>none
def sd(E:Env):St→List tO→Option St
 | st,[]=>some st
 | st,p::ps=>(fO E st p).bind fun st'=>sd E st' ps
def St.kV(dp:Nat)(st:St):AV→Option AV
 | .o t es=>some (.l t es)
 | .r (.s d)=>(st.rowAt dp (.s d)).bind fun r=>some (.l r.1 r.2)
 | .r (.c k off)=>if k.dp=dp then (st.rowAt dp (.c k off)).bind fun r=>some (.l r.1 r.2) else none
 | .v (.s d) lo len=>(st.rowAt dp (.s d)).bind fun r=>if lo+len≤r.2.length then some (.l r.1 ((r.2.drop lo).take len)) else none
 | .w _ _ _=>none
 | x=>some x
def St.Dg(dp:Nat)(st:St):List AV→Option (List AV)
 | []=>some []
 | x::xs=>(st.kV dp x).bind fun y=>(st.Dg dp xs).bind fun ys=>some (y::ys)
def St.uk(E:Env)(st:St):RV→Option AV
 | .t n=>st.kV E.dp (aC st.fr n)
 | .c n sz=>match aC st.fr n with
  | .p k off=>if k.dp=E.dp then
    (aP st.bx k.d).bind fun cs=>(pick sz off cs).bind fun y=>match y with
     | .a ds=>(st.Dg E.dp ds).bind fun ds=>some (.a ds)
     | y=>st.kV E.dp y
   else none
  | _=>none
def St.oq(E:Env)(st:St):List RV→Option (List AV)
 | []=>some []
 | x::xs=>(st.uk E x).bind fun y=>(st.oq E xs).bind fun ys=>some (y::ys)
def HT:List AV→AV
 | [x]=>x
 | xs=>.tp xs
def St.result(E:Env)(st:St)(rs:List RV):Option AV:=
 (st.oq E rs).bind fun xs=>if AV.cq xs then some (HT xs) else none
def ss:AV→Bool
 | .o _ _=>true
 | x=>x.pure
def St.zf(E:Env)(st:St):List RV→Option (List AV)
 | [.t n]=>match aC st.fr n with
  | .p k 0=>if k.dp=E.dp then (aP st.bx k.d).bind fun cs=>if cs.all ss then some cs else none else none
  | _=>none
 | _=>none
def St.end_(E:Env)(st:St)(rs:List RV):Option bh:=
 match st.result E rs with
 | some x=>some (.ret x)
 | none=>(st.zf E rs).map .new
def kW:Nat→List AV→List (Nat×AV)
 | _,[]=>[]
 | i,x::xs=>(i,x)::kW (i+1) xs
def ik(G:p8)(X:Env→AC→St→Option (aJ×St)):Rec:=fun E f args hp=>
 (G f).bind fun fn=>(X E fn.code ⟨kW 0 args,[],hp⟩).bind fun r=>match r.1 with
  | .ex _=>none
  | _=>(r.2.end_ E fn.res).bind fun x=>some (x,r.2.hp)
def sD(k:St→Option (aJ×St))(r:aJ×St):Option (aJ×St):=
 match r.1 with
 | .nrm=>k r.2
 | e=>some (e,r.2)
def inBlock(id:Nat)(r:aJ×St):Option (aJ×St):=
 match r.1 with
 | .ex id'=>if id'=id then some (.nrm,r.2) else some (.ex id',r.2)
 | e=>some (e,r.2)
def exec(G:p8)(Ω:cP):Nat→Env→AC→St→Option (aJ×St)
 | 0,_,_,_=>none
 | n+1,E,c,st=>
  match c with
  | .sk=>some (.nrm,st)
  | .rg pre ops kf kb=>(sd E st pre).bind fun st1=>(jx (ik G (exec G Ω n)) Ω E st1 ops).bind fun st2=>some (.nrm,st2.bX kf kb)
  | .dg pre mks ops kf kb=>(sd E st pre).bind fun st1=>if (mks.all (cJ E.dp st1)&&ops.all (BP E.dp st1))=true then
    (oJ (ik G (exec G Ω n)) Ω E st1 ops).bind fun st2=>some (.nrm,st2.bX kf kb) else none
  | .sq x y=>(exec G Ω n E x st).bind (sD fun st1=>exec G Ω n E y st1)
  | .ite c x y=>(qU (st.ev c)).bind fun z=>if z=true then exec G Ω n E x st else exec G Ω n E y st
  | .bl id x=>(exec G Ω n E x st).bind (inBlock id)
  | .lp x=>(exec G Ω n E x st).bind (sD fun st1=>exec G Ω n E (.lp x) st1)
  | .ex id=>some (.ex id,st)
  | .rt=>some (.ret,st)
  | .kp kf kb x=>exec G Ω n E x (st.bX kf kb)
  | .bad=>none
end Go.Proofs.YtndeklbmglgonaaGreat.A
