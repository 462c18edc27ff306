/- Functions of the program as plain functions, by program. -/
import Derived.Test.YtlmphbbhaeampaaGreatTypes
import Derived.Test.YtlmphbbhaeampaaGreatBase
import Derived.Test.YtlmphbbhaeampaaGreatFE
set_option linter.all false
set_option maxRecDepth 100000
namespace Go.Proofs.YtlmphbbhaeampaaGreat.A
open Go
noncomputable section
variable [Lp]
section
variable (a0:an)(m:(List Bool))(c:Nat)(a2:Int)(j:Nat)(d:(List Bool))(a1:Int)
def na:Option (((List Bool)×Nat)⊕((List Bool)×Nat×Bool)):=
 if (c:Int)<(a0.Grants.length:Int) then
  (a0.Grants[c]?).bind fun p=>
  (cV p.Who).bind fun j12=>
  (m[j12]?).bind fun w=>
  if w=true then
   (cV p.For).bind fun j17=>
   (m[j17]?).bind fun C=>
   if IntKind.i64.wrap ((c:Int)+1)=((c+1:Nat):Int) then
    some (.inl (m.set j17 true,c+1))
   else none
  else
   if IntKind.i64.wrap ((c:Int)+1)=((c+1:Nat):Int) then
    some (.inl (m,c+1))
   else none
 else
  some (.inr (m,c,decide ((c:Int)<(a0.Grants.length:Int))))
abbrev K2(v:((List Bool)×Nat)):St:=⟨[(2,(I a2)),zP 3,(7,(ig v.1)),(8,(zI j)),(9,(I (v.2:Int)))],[(3,[(I a0.Many),(aX a0.Grants)])],H0⟩
abbrev C6(x:((List Bool)×Nat×Bool)):bh×St:=((.ex 2),⟨[(2,(I a2)),zP 3,(7,(ig x.1)),(8,(zI j)),(9,(I (x.2.1:Int))),(26,(.b x.2.2))],[(3,[(I a0.Many),(aX a0.Grants)])],H0⟩)
theorem Jv(m:(List Bool))(c:Nat)(o:((List Bool)×Nat)⊕((List Bool)×Nat×Bool))(h:na a0 m c=some o):cG E0 Rj (K2 a0 a2 j) (C6 a0 a2 j) (m,c) o:=
 cT (bt<|ao (.i (a0.Grants.length:Int))<|.or (ee<|ao (.n c)<|.ex fun (p:dv)=>let A:=[(I p.Who),(I p.For)];ao (.v (.a A))<|xN fun j12=>xB fun w=>ao (.v (.b w))<|.or (ee<|ao (.n c)<|ao (.v (.a A))<|xN fun j17=>xB fun C=>ao (.v (.b C))<|ao (.l ((m.set j17 true).map AV.b))<|ao (.i ((c+1:Nat):Int))<|.nil) (bf<|ao (.i ((c+1:Nat):Int))<|.nil)) (bf<|.nil)) fun L=>ai (rfl:Z0)<|ai (bn bW a0.Grants)<|da h (fun h9 h=>qO (aE h9)<|ai (rI c)<|bm h fun p u h=>ai (aI bW u)<|ez h fun j12 z h=>ai z<|bm h fun w H h=>ai (aI AV.b H)<|ai (aI AV.b H)<|b9 h (fun E h=>qO E<|ai (rI c)<|ai (aI bW u)<|ez h fun j17 P h=>ai P<|bm h fun C F h=>ai (aI AV.b F)<|ai ff<|ai (aI AV.b F)<|ai (map_set .. : (m.map AV.b).set j17 (.b true)=(m.set j17 true).map AV.b)<|bc h fun J h=>ai J<|L h) (fun E h=>ai E<|bc h fun K h=>ai K<|L h)) (fun h9 h=>ai (aG h9)<|L h)
def nh(j:Nat):Option (((List Bool)×Nat)⊕((List Bool)×Nat×Bool)):=
 if (j:Int)<a0.Many then
  (lp (fun v=>na a0 v.1 v.2) (d,0)).bind fun x9=>
  if IntKind.i64.wrap ((j:Int)+1)=((j+1:Nat):Int) then
   some (.inl (x9.1,j+1))
  else none
 else
  some (.inr (d,j,decide ((j:Int)<a0.Many)))
abbrev K3(v:((List Bool)×Nat)):St:=⟨[(2,(I a2)),zP 3,(7,(ig v.1)),(8,(I (v.2:Int)))],[(3,[(I a0.Many),(aX a0.Grants)])],H0⟩
abbrev C7(x:((List Bool)×Nat×Bool)):bh×St:=((.ex 0),⟨[(2,(I a2)),zP 3,(7,(ig x.1)),(8,(I (x.2.1:Int))),(19,(.b x.2.2))],[(3,[(I a0.Many),(aX a0.Grants)])],H0⟩)
theorem Jw(j:Nat)(o:((List Bool)×Nat)⊕((List Bool)×Nat×Bool))(h:nh a0 d j=some o):cG E0 Rk (K3 a0 a2) (C7 a0 a2) (d,j) o:=
 cT (bt<|.or (bt<|.ex fun (x9:((List Bool)×Nat×Bool))=>ao (.dJ (C6 a0 a2 j x9))<|ao (.i ((j+1:Nat):Int))<|.nil) (bf<|.nil)) fun L=>ai (rfl:Z0)<|da h (fun h8 h=>ai (aE h8)<|bI h (im (fun v=>Jv a0 a2 j v.1 v.2) (d,0)) fun x9 h=>bc h fun N h=>ai N<|L h) (fun h8 h=>ai (aG h8)<|L h)
abbrev Oe(a0:an)(a1:Int)(a2:Int)(r:Bool):bA×HP:=(.ret (.b r),H0)
def pS(a2:Int):Option Bool:=
 (cV a0.Many).bind fun j1=>
 if j1≤1000000000 then
  (cV a1).bind fun j4=>
  ((List.replicate j1 false)[j4]?).bind fun y6=>
  (lp (fun v=>nh a0 v.1 v.2) (((List.replicate j1 false).set j4 true),0)).bind fun x8=>
  (cV a2).bind fun j10=>
  (x8.1[j10]?).bind fun y=>
  some y
 else none
theorem BS(a2:Int)(r:Bool)(h:pS a0 a1 a2=some r):call G Ω0 E0 184 [(.a [(I a0.Many),(.l 79 (a0.Grants.map bW))]),(I a1),(I a2)] H0=some (Oe a0 a1 a2 r):=
 a8 ahr (bt<|xN fun j1=>let A:=List.replicate j1 false;ao (.l (A.map AV.b))<|xN fun j4=>xB fun y6=>ao (.v (.b y6))<|ao (.l ((A.set j4 true).map AV.b))<|.ex fun (x8:((List Bool)×Nat×Bool))=>ao (.dJ (C7 a0 a2 x8))<|xN fun j10=>xB fun y=>ao (.v (.b y))<|.nil) fun L=>xn<|ez h fun j1 h2 h=>let B:=List.replicate j1 false;ai h2<|bc h fun h3 h=>ai ((EW h3 (by decide)):j1*1≤140737488355328)<|ai ((EX h3):j1≤maxLen)<|ai ((uR ..).symm:List.replicate j1 (.b false)=B.map AV.b)<|ez h fun j4 h5 h=>ai h5<|bm h fun y6 h7 h=>ai (aI AV.b h7)<|ai ff<|ai (aI AV.b h7)<|ai (map_set .. : (B.map AV.b).set j4 (.b true)=(B.set j4 true).map AV.b)<|bI h (im (fun v=>Jw a0 a2 v.1 v.2) ((B.set j4 true),0)) fun x8 h=>ez h fun j10 u h=>ai u<|bm h fun y z h=>ai (aI AV.b z)<|ai (aI AV.b z)<|L h
end
section
variable (a0:an)(a1:Int)(a2:(List cb))(d:Nat)(q:Bool)(c:Nat)
def tC:Option ((Bool×Nat)⊕(Bool×Nat×Bool)):=
 (a2[d]?).bind fun y6=>
 if (c:Int)<(y6.Names.length:Int) then
  if q=true then
   if IntKind.i64.wrap ((c:Int)+1)=((c+1:Nat):Int) then
    some (.inl (true,c+1))
   else none
  else
   (y6.Names[c]?).bind fun p=>
   (pS a0 a1 p).bind fun D=>
   if IntKind.i64.wrap ((c:Int)+1)=((c+1:Nat):Int) then
    some (.inl (D,c+1))
   else none
 else
  some (.inr (q,c,decide ((c:Int)<(y6.Names.length:Int))))
abbrev SX(v:(Bool×Nat)):St:=⟨[(1,(I a1)),(2,(bU a2)),zP 3,(7,(zI d)),(8,(.b v.1)),(9,(I (v.2:Int)))],[(3,[(I a0.Many),(aX a0.Grants)])],H0⟩
abbrev KA(x:(Bool×Nat×Bool)):bh×St:=((.ex 2),⟨[(1,(I a1)),(2,(bU a2)),zP 3,(7,(zI d)),(8,(.b x.1)),(9,(I (x.2.1:Int))),(31,(.b x.2.2))],[(3,[(I a0.Many),(aX a0.Grants)])],H0⟩)
theorem Qw(o:(Bool×Nat)⊕(Bool×Nat×Bool))(h:tC a0 a1 a2 d q c=some o):cG E0 QZ (SX a0 a1 a2 d) (KA a0 a1 a2 d) (q,c) o:=
 cT (ao (.n d)<|.ex fun (y6:cb)=>let A:=[(I y6.Owner),(bw y6.Names)];ao (.v (.a A))<|ao (.i (y6.Names.length:Int))<|.or (bt<|.or (bf<|bf<|bf<|bf<|bf<|bf<|bf<|bf<|bf<|bf<|bf<|bt<|ao (.i ((c+1:Nat):Int))<|.nil) (Vm<|ao (.n d)<|ao (.v (.a A))<|xp<|ao (.n c)<|xI fun p=>ee<|xB fun D=>bf<|ao (.i ((c+1:Nat):Int))<|.nil)) (bf<|.nil)) fun L=>ai (rI d)<|bm h fun y6 h7 h=>ai (aI cg h7)<|ai (bn I y6.Names)<|da h (fun h8 h=>IU (aE h8)<|b9 h (fun h9 h=>cm h9<|cm h9<|cm h9<|cm h9<|cm h9<|ai (g0 h9)<|ai h9<|bc h fun O h=>ai O<|L h) (fun h9 h=>ai (g0 h9)<|ai (rfl:Z0)<|jl h9<|jl h9<|jl h9<|jl h9<|ai (rI d)<|ai (aI cg h7)<|jl h9<|jl h9<|jl h9<|jl h9<|ai (rI c)<|bm h fun p u h=>ai (aI I u)<|jl h9<|jl h9<|bI h (BS a0 a1 p) fun D h=>ai h9<|bc h fun M h=>ai M<|L h)) (fun h8 h=>ai (aG h8)<|L h)
def tD:Option (Nat⊕(Unit⊕(Nat×Bool))):=
 if (d:Int)<(a2.length:Int) then
  (a2[d]?).bind fun y2=>
  (pS a0 a1 y2.Owner).bind fun r4=>
  (lp (fun v=>tC a0 a1 a2 d v.1 v.2) (r4,0)).bind fun x6=>
  if x6.1=true then
   if IntKind.i64.wrap ((d:Int)+1)=((d+1:Nat):Int) then
    some (.inl (d+1))
   else none
  else
   some (.inr (.inl ()))
 else
  some (.inr (.inr (d,decide ((d:Int)<(a2.length:Int)))))
abbrev SY(v:Nat):St:=⟨[(1,(I a1)),(2,(bU a2)),zP 3,(7,(I (v:Int)))],[(3,[(I a0.Many),(aX a0.Grants)])],H0⟩
abbrev EC(x:(Unit⊕(Nat×Bool))):bh×St:=match x with | .inl ()=>(.ret,⟨[(6,(.b false))],[],H0⟩) | .inr (z1,z2)=>((.ex 0),⟨[(1,(I a1)),(2,(bU a2)),zP 3,(7,(I (z1:Int))),(13,(.b z2))],[(3,[(I a0.Many),(aX a0.Grants)])],H0⟩)
theorem Qx(o:Nat⊕(Unit⊕(Nat×Bool)))(h:tD a0 a1 a2 d=some o):cG E0 Q0 (SY a0 a1 a2) (EC a0 a1 a2) d o:=
 cT (ao (.i (a2.length:Int))<|.or (ee<|ao (.n d)<|.ex fun (y2:cb)=>ao (.v (.a [(I y2.Owner),(bw y2.Names)]))<|xB fun r4=>.ex fun (x6:(Bool×Nat×Bool))=>ao (.dJ (KA a0 a1 a2 d x6))<|.or (bf<|ao (.i ((d+1:Nat):Int))<|.nil) (bt<|.nil)) (bf<|.nil)) fun L=>ai (bn cg a2)<|da h (fun h1 h=>rY (aE h1)<|ai (rfl:Z0)<|bE<|bE<|ai (rI d)<|bm h fun y2 h3 h=>ai (aI cg h3)<|n4<|bI h (BS a0 a1 y2.Owner) fun r4 h=>bI h (im (fun v=>Qw a0 a1 a2 d v.1 v.2) (r4,0)) fun x6 h=>b9 h (fun h8 h=>ai (av not h8)<|bc h fun w9 h=>ai w9<|L h) (fun h8 h=>ai (av not h8)<|L h)) (fun h1 h=>ai (aG h1)<|L h)
abbrev Wx(a0:an)(a1:Int)(a2:(List cb))(r:Bool):bA×HP:=(.ret (.b r),H0)
def BT:Option Bool:=
 (lp (fun v=>tD a0 a1 a2 v) 0).bind fun x1=>match x1 with
 | .inl t=>
  some false
 | .inr s=>
  some true
theorem Il(r:Bool)(h:BT a0 a1 a2=some r):call G Ω0 E0 139 [(.a [(I a0.Many),(.l 79 (a0.Grants.map bW))]),(I a1),(.l 155 (a2.map cg))] H0=some (Wx a0 a1 a2 r):=
 a8 agZ (.or (.ex fun (t:Unit)=>ao (.dJ (EC a0 a1 a2 (.inl t)))<|.nil) (.ex fun (s:(Nat×Bool))=>ao (.dJ (EC a0 a1 a2 (.inr s)))<|.nil)) fun L=>ai tt<|iy h (im (Qx a0 a1 a2) 0) (fun t h=>L h) (fun s h=>L h)
end
section
variable (a0:an)(a1:Label)(k:Nat)(g:(List Bool))(f:(List Bool))
def pN:Option ((Nat×(List Bool)×(List Bool))⊕(Nat×Bool×(List Bool)×(List Bool))):=
 if (k:Int)<a0.Many then
  (BT a0 (k:Int) a1.Read).bind fun r2=>
  if g.length + [r2].length≤1000000000 then
   (BT a0 (k:Int) a1.Write).bind fun r5=>
   if f.length + [r5].length≤1000000000 then
    if IntKind.i64.wrap ((k:Int)+1)=((k+1:Nat):Int) then
     some (.inl (k+1,g++[r2],f++[r5]))
    else none
   else none
  else none
 else
  some (.inr (k,decide ((k:Int)<a0.Many),g,f))
abbrev K4(v:(Nat×(List Bool)×(List Bool))):St:=⟨[zP 2,zP 3,zP 4,zP 5,(6,(I (v.1:Int)))],[(2,[(I a0.Many),(aX a0.Grants)]),(3,[(bU a1.Read),(bU a1.Write)]),(4,[(aC ([]:List Bool)),(aC ([]:List Bool))]),(5,[(ig v.2.1),(ig v.2.2)])],H0⟩
abbrev C8(x:(Nat×Bool×(List Bool)×(List Bool))):bh×St:=((.ex 0),⟨[zP 2,zP 3,zP 4,zP 5,(6,(I (x.1:Int))),(10,(.b x.2.1))],[(2,[(I a0.Many),(aX a0.Grants)]),(3,[(bU a1.Read),(bU a1.Write)]),(4,[(aC ([]:List Bool)),(aC ([]:List Bool))]),(5,[(ig x.2.2.1),(ig x.2.2.2)])],H0⟩)
theorem Jy(o:(Nat×(List Bool)×(List Bool))⊕(Nat×Bool×(List Bool)×(List Bool)))(h:pN a0 a1 k g f=some o):cG E0 U8 (K4 a0 a1) (C8 a0 a1) (k,g,f) o:=
 cT (bt<|.or (xp<|xB fun r2=>ao (.l ([r2].map AV.b))<|fh<|ao (.l ((g++[r2]).map AV.b))<|tn<|xB fun r5=>ao (.l ([r5].map AV.b))<|fh<|ao (.l ((f++[r5]).map AV.b))<|ee<|ao (.i ((k+1:Nat):Int))<|.nil) (bf<|.nil)) fun L=>ai (rfl:Z0)<|da h (fun h1 h=>ai (aE h1)<|bE<|ph<|ai (rfl:Z0)<|bE<|ai tt<|ph<|bI h (Il a0 (k:Int) a1.Read) fun r2 h=>let A:=[r2].map AV.b;ai tt<|ai (rfl:[(.b r2)]=[r2].map AV.b)<|ai tt<|ai ff<|kg<|ai (rfl:Z0)<|bc h fun h4 h=>ai ((fS AV.b (n:=1) (fun _=>rfl) [r2]):A.all (fun e=>e.nc==1)=true)<|ai ((jO h4 (by decide)):((g.map AV.b).length+A.length)*1≤140737488355328)<|ai ((jP h4):(g.map AV.b).length+A.length≤maxLen)<|ai (dI.symm:g.map AV.b++[r2].map AV.b=(g++[r2]).map AV.b)<|ai ff<|kg<|bE<|ph<|ai (rfl:Z0)<|bE<|ai tt<|ph<|bI h (Il a0 (k:Int) a1.Write) fun r5 h=>let B:=[r5].map AV.b;ai tt<|ai (rfl:[(.b r5)]=[r5].map AV.b)<|ai tt<|ai ff<|kg<|ai (rfl:Z0)<|bc h fun h7 h=>ai ((fS AV.b (n:=1) (fun _=>rfl) [r5]):B.all (fun e=>e.nc==1)=true)<|ai ((jO h7 (by decide)):((f.map AV.b).length+B.length)*1≤140737488355328)<|ai ((jP h7):(f.map AV.b).length+B.length≤maxLen)<|ai (dI.symm:f.map AV.b++[r5].map AV.b=(f++[r5]).map AV.b)<|ai ff<|kg<|bc h fun w8 h=>ai w8<|L h) (fun h1 h=>ai (aG h1)<|L h)
abbrev Of(a0:an)(a1:Label)(r:Level):bA×HP:=(.ret (.a [(.l 4 (r.Readers.map AV.b)),(.l 4 (r.Writers.map AV.b))]),H0)
def wa:Option Level:=
 (lp (fun v=>pN a0 a1 v.1 v.2.1 v.2.2) (0,([]:List Bool),([]:List Bool))).bind fun x1=>
 some (⟨x1.2.2.1,x1.2.2.2⟩:Level)
theorem Jz(r:Level)(h:wa a0 a1=some r):call G Ω0 E0 95 [(.a [(I a0.Many),(.l 79 (a0.Grants.map bW))]),(.a [(.l 155 (a1.Read.map cg)),(.l 155 (a1.Write.map cg))])] H0=some (Of a0 a1 r):=
 a8 G95 (xp<|.ex fun (x1:(Nat×Bool×(List Bool)×(List Bool)))=>ao (.dJ (C8 a0 a1 x1))<|bt<|bt<|bt<|bt<|bt<|bt<|bt<|.nil) fun L=>bE<|bE<|ai ff<|kg<|ai ff<|kg<|bI h (im (fun v=>Jy a0 a1 v.1 v.2.1 v.2.2) (0,([]:List Bool),([]:List Bool))) fun x1 h=>ai ff<|kg<|ai ff<|kg<|ai (rfl:Z0)<|oq<|ai (rfl:Z0)<|L h
end
section
variable (a0:Int)(a1:Int)(a2:Int)
abbrev Og(a0:Int)(a1:Int)(a2:Int)(r:Bool):bA×HP:=(.ret (.b r),H0)
def wc:Option Bool:=
 if a1≤a0 then
  some (decide (a0≤a2))
 else
  some false
theorem JA(r:Bool)(h:wc a0 a1 a2=some r):call G Ω0 E0 43 [(I a0),(I a1),(I a2)] H0=some (Og a0 a1 a2 r):=
 a8 G43 (.or (xp<|.nil) (bf<|bf<|bf<|bf<|.nil)) fun L=>da h (fun h1 h=>dE (aE h1)<|rX (aE h1)<|L h) (fun h1 h=>dE (aG h1)<|rX (aG h1)<|L h)
end
section
variable (a0:an)(a1:Int)
abbrev Oh(a0:an)(a1:Int)(r:Bool):bA×HP:=(.ret (.b r),H0)
def we:Option Bool:=
 if IntKind.i64.wrap (a0.Many - 1)=a0.Many - 1 then
  (wc a1 0 (a0.Many - 1)).bind fun r2=>
  some r2
 else none
theorem JB(r:Bool)(h:we a0 a1=some r):call G Ω0 E0 29 [(.a [(I a0.Many),(.l 79 (a0.Grants.map bW))]),(I a1)] H0=some (Oh a0 a1 r):=
 a8 G29 (bt<|ao (.i (a0.Many - 1))<|xB fun r2=>.nil) fun L=>xn<|bc h fun w1 h=>ai w1<|bI h (JA a1 0 (a0.Many - 1)) fun r2 h=>L h
end
end
end Go.Proofs.YtlmphbbhaeampaaGreat.A
