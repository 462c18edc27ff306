/- Functions of the program as plain functions, by program. -/
import Derived.Test.YtlmphbbhaeampaaGreatTypes
import Derived.Test.YtlmphbbhaeampaaGreatBase
import Derived.Test.YtlmphbbhaeampaaGreatRWalk
import Derived.Test.YtlmphbbhaeampaaGreatFR
set_option linter.all false
set_option maxRecDepth 100000
namespace Go.Proofs.YtlmphbbhaeampaaGreat.A
open Go
noncomputable section
variable [Lp]
section
variable (a0:ak)(s:(List Bool))(d:Nat)(a2:Int)(m:Nat)(f:(List Bool))(a1:Int)
def n6:Option (((List Bool)×Nat)⊕((List Bool)×Nat×Bool)):=
 if (d:Int)<(a0.Grants.length:Int) then
  (a0.Grants[d]?).bind fun t=>
  (cU t.Who).bind fun j12=>
  (s[j12]?).bind fun D=>
  if D=true then
   (cU t.For).bind fun j17=>
   (s[j17]?).bind fun H=>
   if IntKind.i64.wrap ((d:Int)+1)=((d+1:Nat):Int) then
    some (.inl (s.set j17 true,d+1))
   else none
  else
   if IntKind.i64.wrap ((d:Int)+1)=((d+1:Nat):Int) then
    some (.inl (s,d+1))
   else none
 else
  some (.inr (s,d,decide ((d:Int)<(a0.Grants.length:Int))))
abbrev Ox(v:((List Bool)×Nat)):St:=⟨[(2,(I a2)),zP 3,(7,(iO v.1)),(8,(zI m)),(9,(I (v.2:Int)))],[(3,[(I a0.Many),(aX a0.Grants)])],H0⟩
abbrev Fm(x:((List Bool)×Nat×Bool)):bc×St:=((.ex 2),⟨[(2,(I a2)),zP 3,(7,(iO x.1)),(8,(zI m)),(9,(I (x.2.1:Int))),(26,(.b x.2.2))],[(3,[(I a0.Many),(aX a0.Grants)])],H0⟩)
theorem M3(s:(List Bool))(d:Nat)(o:((List Bool)×Nat)⊕((List Bool)×Nat×Bool))(h:n6 a0 s d=some o):bQ E0 U3 (Ox a0 a2 m) (Fm a0 a2 m) (s,d) o:=
 bZ (bt<|ao (.i (a0.Grants.length:Int))<|.or (cM<|ao (.n d)<|.ex fun (t:dO)=>let A:=[(I t.Who),(I t.For)];ao (.v (.a A))<|xN fun j12=>xB fun D=>ao (.v (.b D))<|.or (cM<|ao (.n d)<|ao (.v (.a A))<|xN fun j17=>xB fun H=>ao (.v (.b H))<|ao (.l ((s.set j17 true).map AV.b))<|ao (.i ((d+1:Nat):Int))<|.nil) (bf<|ao (.i ((d+1:Nat):Int))<|.nil)) (bf<|.nil)) fun L=>ai (rfl:Z0)<|ai (aP bT a0.Grants)<|cw h (fun h9 h=>lG (aF h9)<|ai (rI d)<|ba h fun t y h=>ai (aB bT y)<|dM h fun j12 F h=>ai F<|ba h fun D P h=>ai (aB AV.b P)<|ai (aB AV.b P)<|bB h (fun J h=>lG J<|ai (rI d)<|ai (aB bT y)<|dM h fun j17 X h=>ai X<|ba h fun H O h=>ai (aB AV.b O)<|ai ff<|ai (aB AV.b O)<|ai (map_set .. : (s.map AV.b).set j17 (.b true)=(s.set j17 true).map AV.b)<|aO h fun Q h=>ai Q<|L h) (fun J h=>ai J<|aO h fun R h=>ai R<|L h)) (fun h9 h=>ai (aD h9)<|L h)
def n7(m:Nat):Option (((List Bool)×Nat)⊕((List Bool)×Nat×Bool)):=
 if (m:Int)<a0.Many then
  (lp (fun v=>n6 a0 v.1 v.2) (f,0)).bind fun x9=>
  if IntKind.i64.wrap ((m:Int)+1)=((m+1:Nat):Int) then
   some (.inl (x9.1,m+1))
  else none
 else
  some (.inr (f,m,decide ((m:Int)<a0.Many)))
abbrev Oy(v:((List Bool)×Nat)):St:=⟨[(2,(I a2)),zP 3,(7,(iO v.1)),(8,(I (v.2:Int)))],[(3,[(I a0.Many),(aX a0.Grants)])],H0⟩
abbrev Fo(x:((List Bool)×Nat×Bool)):bc×St:=((.ex 0),⟨[(2,(I a2)),zP 3,(7,(iO x.1)),(8,(I (x.2.1:Int))),(19,(.b x.2.2))],[(3,[(I a0.Many),(aX a0.Grants)])],H0⟩)
theorem M4(m:Nat)(o:((List Bool)×Nat)⊕((List Bool)×Nat×Bool))(h:n7 a0 f m=some o):bQ E0 U4 (Oy a0 a2) (Fo a0 a2) (f,m) o:=
 bZ (bt<|.or (bt<|.ex fun (x9:((List Bool)×Nat×Bool))=>ao (.cA (Fm a0 a2 m x9))<|ao (.i ((m+1:Nat):Int))<|.nil) (bf<|.nil)) fun L=>ai (rfl:Z0)<|cw h (fun h8 h=>ai (aF h8)<|bq h (dT (fun v=>M3 a0 a2 m v.1 v.2) (f,0)) fun x9 h=>aO h fun V h=>ai V<|L h) (fun h8 h=>ai (aD h8)<|L h)
abbrev RO(a0:ak)(a1:Int)(a2:Int)(r:Bool):bC×HP:=(.ret (.b r),H0)
def oX(a2:Int):Option Bool:=
 (cU a0.Many).bind fun j1=>
 if j1≤1000000000 then
  (cU a1).bind fun j4=>
  ((List.replicate j1 false)[j4]?).bind fun y6=>
  (lp (fun v=>n7 a0 v.1 v.2) (((List.replicate j1 false).set j4 true),0)).bind fun x8=>
  (cU a2).bind fun j10=>
  (x8.1[j10]?).bind fun E=>
  some E
 else none
theorem yq(a2:Int)(r:Bool)(h:oX a0 a1 a2=some r):call G Ω0 E0 184 [(.a [(I a0.Many),(.l 79 (a0.Grants.map bT))]),(I a1),(I a2)] H0=some (RO a0 a1 a2 r):=
 bj aoD (bt<|xN fun j1=>let A:=List.replicate j1 false;ao (.l (A.map AV.b))<|xN fun j4=>xB fun y6=>ao (.v (.b y6))<|ao (.l ((A.set j4 true).map AV.b))<|.ex fun (x8:((List Bool)×Nat×Bool))=>ao (.cA (Fo a0 a2 x8))<|xN fun j10=>xB fun E=>ao (.v (.b E))<|.nil) fun L=>uq<|dM h fun j1 h2 h=>let B:=List.replicate j1 false;ai h2<|aO h fun h3 h=>ai ((Cr h3 (by decide)):j1*1≤140737488355328)<|ai ((Ct h3):j1≤maxLen)<|ai ((sc ..).symm:List.replicate j1 (.b false)=B.map AV.b)<|dM h fun j4 h5 h=>ai h5<|ba h fun y6 h7 h=>ai (aB AV.b h7)<|ai ff<|ai (aB AV.b h7)<|ai (map_set .. : (B.map AV.b).set j4 (.b true)=(B.set j4 true).map AV.b)<|bq h (dT (fun v=>M4 a0 a2 v.1 v.2) ((B.set j4 true),0)) fun x8 h=>dM h fun j10 y h=>ai y<|ba h fun E F h=>ai (aB AV.b F)<|ai (aB AV.b F)<|L h
end
section
variable (a0:ak)(a1:Int)(a2:(List cp))(f:Nat)(z:Bool)(d:Nat)
def vK:Option ((Bool×Nat)⊕(Bool×Nat×Bool)):=
 (a2[f]?).bind fun y6=>
 if (d:Int)<(y6.Names.length:Int) then
  if z=true then
   if IntKind.i64.wrap ((d:Int)+1)=((d+1:Nat):Int) then
    some (.inl (true,d+1))
   else none
  else
   (y6.Names[d]?).bind fun t=>
   (oX a0 a1 t).bind fun C=>
   if IntKind.i64.wrap ((d:Int)+1)=((d+1:Nat):Int) then
    some (.inl (C,d+1))
   else none
 else
  some (.inr (z,d,decide ((d:Int)<(y6.Names.length:Int))))
abbrev Wr(v:(Bool×Nat)):St:=⟨[(1,(I a1)),(2,(bE a2)),zP 3,(7,(zI f)),(8,(.b v.1)),(9,(I (v.2:Int)))],[(3,[(I a0.Many),(aX a0.Grants)])],H0⟩
abbrev N0(x:(Bool×Nat×Bool)):bc×St:=((.ex 2),⟨[(1,(I a1)),(2,(bE a2)),zP 3,(7,(zI f)),(8,(.b x.1)),(9,(I (x.2.1:Int))),(31,(.b x.2.2))],[(3,[(I a0.Many),(aX a0.Grants)])],H0⟩)
theorem Ul(o:(Bool×Nat)⊕(Bool×Nat×Bool))(h:vK a0 a1 a2 f z d=some o):bQ E0 UI (Wr a0 a1 a2 f) (N0 a0 a1 a2 f) (z,d) o:=
 bZ (ao (.n f)<|.ex fun (y6:cp)=>let A:=[(I y6.Owner),(aS y6.Names)];ao (.v (.a A))<|ao (.i (y6.Names.length:Int))<|.or (bt<|.or (bf<|bf<|bf<|bf<|bf<|bf<|bf<|bf<|bf<|bf<|bf<|bt<|ao (.i ((d+1:Nat):Int))<|.nil) (PK<|ao (.n f)<|ao (.v (.a A))<|mg<|ao (.n d)<|xI fun t=>cM<|xB fun C=>bf<|ao (.i ((d+1:Nat):Int))<|.nil)) (bf<|.nil)) fun L=>ai (rI f)<|ba h fun y6 h7 h=>ai (aB bV h7)<|ai (aP I y6.Names)<|cw h (fun h8 h=>wa (aF h8)<|bB h (fun h9 h=>fy h9<|fy h9<|fy h9<|ai (g0 h9)<|iD h9<|aO h fun W h=>ai W<|L h) (fun h9 h=>ai (g0 h9)<|ai (rfl:Z0)<|wc h9<|wc h9<|ai (rI f)<|ai (aB bV h7)<|wc h9<|wc h9<|ai (rI d)<|ba h fun t y h=>ai (aB I y)<|wc h9<|bq h (yq a0 a1 t) fun C h=>ai h9<|aO h fun T h=>ai T<|L h)) (fun h8 h=>ai (aD h8)<|L h)
def vL:Option (Nat⊕(Unit⊕(Nat×Bool))):=
 if (f:Int)<(a2.length:Int) then
  (a2[f]?).bind fun y2=>
  (oX a0 a1 y2.Owner).bind fun r4=>
  (lp (fun v=>vK a0 a1 a2 f v.1 v.2) (r4,0)).bind fun x6=>
  if x6.1=true then
   if IntKind.i64.wrap ((f:Int)+1)=((f+1:Nat):Int) then
    some (.inl (f+1))
   else none
  else
   some (.inr (.inl ()))
 else
  some (.inr (.inr (f,decide ((f:Int)<(a2.length:Int)))))
abbrev Ws(v:Nat):St:=⟨[(1,(I a1)),(2,(bE a2)),zP 3,(7,(I (v:Int)))],[(3,[(I a0.Many),(aX a0.Grants)])],H0⟩
abbrev Hk(x:(Unit⊕(Nat×Bool))):bc×St:=match x with | .inl ()=>(.ret,⟨[(6,(.b false))],[],H0⟩) | .inr (z1,z2)=>((.ex 0),⟨[(1,(I a1)),(2,(bE a2)),zP 3,(7,(I (z1:Int))),(13,(.b z2))],[(3,[(I a0.Many),(aX a0.Grants)])],H0⟩)
theorem Um(o:Nat⊕(Unit⊕(Nat×Bool)))(h:vL a0 a1 a2 f=some o):bQ E0 UJ (Ws a0 a1 a2) (Hk a0 a1 a2) f o:=
 bZ (ao (.i (a2.length:Int))<|.or (cM<|ao (.n f)<|.ex fun (y2:cp)=>ao (.v (.a [(I y2.Owner),(aS y2.Names)]))<|xB fun r4=>.ex fun (x6:(Bool×Nat×Bool))=>ao (.cA (N0 a0 a1 a2 f x6))<|.or (bf<|ao (.i ((f+1:Nat):Int))<|.nil) (bt<|.nil)) (bf<|.nil)) fun L=>ai (aP bV a2)<|cw h (fun h1 h=>ai (aF h1)<|ai tt<|ai (rfl:Z0)<|aZ<|aZ<|ai (rI f)<|ba h fun y2 h3 h=>ai (aB bV h3)<|eH<|bq h (yq a0 a1 y2.Owner) fun r4 h=>bq h (dT (fun v=>Ul a0 a1 a2 f v.1 v.2) (r4,0)) fun x6 h=>bB h (fun h8 h=>ai (az not h8)<|aO h fun w9 h=>ai w9<|L h) (fun h8 h=>ai (az not h8)<|L h)) (fun h1 h=>ai (aD h1)<|L h)
abbrev aan(a0:ak)(a1:Int)(a2:(List cp))(r:Bool):bC×HP:=(.ret (.b r),H0)
def Eg:Option Bool:=
 (lp (fun v=>vL a0 a1 a2 v) 0).bind fun x1=>match x1 with
 | .inl q=>
  some false
 | .inr p=>
  some true
theorem Lu(r:Bool)(h:Eg a0 a1 a2=some r):call G Ω0 E0 139 [(.a [(I a0.Many),(.l 79 (a0.Grants.map bT))]),(I a1),(.l 155 (a2.map bV))] H0=some (aan a0 a1 a2 r):=
 bj an9 (.or (.ex fun (q:Unit)=>ao (.cA (Hk a0 a1 a2 (.inl q)))<|.nil) (.ex fun (p:(Nat×Bool))=>ao (.cA (Hk a0 a1 a2 (.inr p)))<|.nil)) fun L=>ai tt<|dv h (dT (Um a0 a1 a2) 0) (fun q h=>L h) (fun p h=>L h)
end
section
variable (a0:ak)(a1:Label)(c:Nat)(k:(List Bool))(j:(List Bool))
def qV:Option ((Nat×(List Bool)×(List Bool))⊕(Nat×Bool×(List Bool)×(List Bool))):=
 if (c:Int)<a0.Many then
  (Eg a0 (c:Int) a1.Read).bind fun r2=>
  if k.length + [r2].length≤1000000000 then
   (Eg a0 (c:Int) a1.Write).bind fun r5=>
   if j.length + [r5].length≤1000000000 then
    if IntKind.i64.wrap ((c:Int)+1)=((c+1:Nat):Int) then
     some (.inl (c+1,k++[r2],j++[r5]))
    else none
   else none
  else none
 else
  some (.inr (c,decide ((c:Int)<a0.Many),k,j))
abbrev Oz(v:(Nat×(List Bool)×(List Bool))):St:=⟨[zP 2,zP 3,zP 4,zP 5,(6,(I (v.1:Int)))],[(2,[(I a0.Many),(aX a0.Grants)]),(3,[(bE a1.Read),(bE a1.Write)]),(4,[(aw ([]:List Bool)),(aw ([]:List Bool))]),(5,[(iO v.2.1),(iO v.2.2)])],H0⟩
abbrev Fp(x:(Nat×Bool×(List Bool)×(List Bool))):bc×St:=((.ex 0),⟨[zP 2,zP 3,zP 4,zP 5,(6,(I (x.1:Int))),(10,(.b x.2.1))],[(2,[(I a0.Many),(aX a0.Grants)]),(3,[(bE a1.Read),(bE a1.Write)]),(4,[(aw ([]:List Bool)),(aw ([]:List Bool))]),(5,[(iO x.2.2.1),(iO x.2.2.2)])],H0⟩)
theorem M5(o:(Nat×(List Bool)×(List Bool))⊕(Nat×Bool×(List Bool)×(List Bool)))(h:qV a0 a1 c k j=some o):bQ E0 YZ (Oz a0 a1) (Fp a0 a1) (c,k,j) o:=
 bZ (bt<|.or (mg<|xB fun r2=>ao (.l ([r2].map AV.b))<|ea<|ao (.l ((k++[r2]).map AV.b))<|pn<|xB fun r5=>ao (.l ([r5].map AV.b))<|ea<|ao (.l ((j++[r5]).map AV.b))<|cM<|ao (.i ((c+1:Nat):Int))<|.nil) (bf<|.nil)) fun L=>ai (rfl:Z0)<|cw h (fun h1 h=>ai (aF h1)<|aZ<|l3<|ai (rfl:Z0)<|aZ<|ai tt<|l3<|bq h (Lu a0 (c:Int) a1.Read) fun r2 h=>let A:=[r2].map AV.b;ai tt<|ai (rfl:[(.b r2)]=[r2].map AV.b)<|PG<|aO h fun h4 h=>ai ((dS AV.b (n:=1) (fun _=>rfl) [r2]):A.all (fun e=>e.nc==1)=true)<|ai ((eJ h4 (by decide)):((k.map AV.b).length+A.length)*1≤140737488355328)<|ai ((eK h4):(k.map AV.b).length+A.length≤maxLen)<|ai (cQ.symm:k.map AV.b++[r2].map AV.b=(k++[r2]).map AV.b)<|lh<|aZ<|l3<|ai (rfl:Z0)<|aZ<|ai tt<|l3<|bq h (Lu a0 (c:Int) a1.Write) fun r5 h=>let B:=[r5].map AV.b;ai tt<|ai (rfl:[(.b r5)]=[r5].map AV.b)<|PG<|aO h fun h7 h=>ai ((dS AV.b (n:=1) (fun _=>rfl) [r5]):B.all (fun e=>e.nc==1)=true)<|ai ((eJ h7 (by decide)):((j.map AV.b).length+B.length)*1≤140737488355328)<|ai ((eK h7):(j.map AV.b).length+B.length≤maxLen)<|ai (cQ.symm:j.map AV.b++[r5].map AV.b=(j++[r5]).map AV.b)<|lh<|aO h fun w8 h=>ai w8<|L h) (fun h1 h=>ai (aD h1)<|L h)
abbrev RP(a0:ak)(a1:Label)(r:Level):bC×HP:=(.ret (.a [(.l 4 (r.Readers.map AV.b)),(.l 4 (r.Writers.map AV.b))]),H0)
def iW:Option Level:=
 (lp (fun v=>qV a0 a1 v.1 v.2.1 v.2.2) (0,([]:List Bool),([]:List Bool))).bind fun x1=>
 some (⟨x1.2.2.1,x1.2.2.2⟩:Level)
theorem tP(r:Level)(h:iW a0 a1=some r):call G Ω0 E0 95 [(.a [(I a0.Many),(.l 79 (a0.Grants.map bT))]),(.a [(.l 155 (a1.Read.map bV)),(.l 155 (a1.Write.map bV))])] H0=some (RP a0 a1 r):=
 bj G95 (mg<|.ex fun (x1:(Nat×Bool×(List Bool)×(List Bool)))=>ao (.cA (Fp a0 a1 x1))<|PI<|.nil) fun L=>aZ<|aZ<|lh<|lh<|bq h (dT (fun v=>M5 a0 a1 v.1 v.2.1 v.2.2) (0,([]:List Bool),([]:List Bool))) fun x1 h=>lh<|lh<|ai (rfl:Z0)<|lZ<|ai (rfl:Z0)<|L h
end
section
variable (a0:Program)(a1:Int)(g:Nat)
def pL:Option (Nat⊕(Unit⊕(Nat×Bool))):=
 if (g:Int)<(a0.Speak.length:Int) then
  (a0.Speak[g]?).bind fun y2=>
  (oX a0.ak y2 a1).bind fun r4=>
  if r4=true then
   some (.inr (.inl ()))
  else
   if IntKind.i64.wrap ((g:Int)+1)=((g+1:Nat):Int) then
    some (.inl (g+1))
   else none
 else
  some (.inr (.inr (g,decide ((g:Int)<(a0.Speak.length:Int)))))
abbrev QQ(v:Nat):St:=⟨[(1,(I a1)),zP 2,(5,(I (v:Int)))],[(2,(aL a0))],H0⟩
abbrev BE(x:(Unit⊕(Nat×Bool))):bc×St:=match x with | .inl ()=>(.ret,⟨[(4,(.b true))],[],H0⟩) | .inr (z1,z2)=>((.ex 0),⟨[(1,(I a1)),zP 2,(5,(I (z1:Int))),(10,(.b z2))],[(2,(aL a0))],H0⟩)
theorem OA(o:Nat⊕(Unit⊕(Nat×Bool)))(h:pL a0 a1 g=some o):bQ E0 Vg (QQ a0 a1) (BE a0 a1) g o:=
 bZ (bt<|ao (.i (a0.Speak.length:Int))<|.or (ea<|ao (.n g)<|xI fun y2=>xB fun r4=>oN (ao (.i ((g+1:Nat):Int))<|.nil)) (bf<|.nil)) fun L=>ai (rfl:Z0)<|ai (aP I a0.Speak)<|cw h (fun h1 h=>ai (aF h1)<|aZ<|ai (rfl:Z0)<|aZ<|ai (rfl:Z0)<|aZ<|ai (rI g)<|ba h fun y2 h3 h=>ai (aB I h3)<|eH<|bq h (yq a0.ak y2 a1) fun r4 h=>bB h (fun h6 h=>ai h6<|L h) (fun h6 h=>ai h6<|aO h fun w7 h=>ai w7<|L h)) (fun h1 h=>ai (aD h1)<|L h)
abbrev Un(a0:Program)(a1:Int)(r:Bool):bC×HP:=(.ret (.b r),H0)
def AA:Option Bool:=
 (lp (fun v=>pL a0 a1 v) 0).bind fun x1=>match x1 with
 | .inl q=>
  some true
 | .inr p=>
  some false
theorem OB(r:Bool)(h:AA a0 a1=some r):call G Ω0 E0 225 [(.a (aL a0)),(I a1)] H0=some (Un a0 a1 r):=
 bj ao5 (.or (.ex fun (q:Unit)=>ao (.cA (BE a0 a1 (.inl q)))<|.nil) (.ex fun (p:(Nat×Bool))=>ao (.cA (BE a0 a1 (.inr p)))<|.nil)) fun L=>ai tt<|dv h (dT (OA a0 a1) 0) (fun q h=>L h) (fun p h=>L h)
end
section
variable (a0:Program)(a1:(List cp))(g:Nat)(r2:(List ay))(c:Nat)
def m5:Option (Nat⊕(Unit⊕(Nat×Bool))):=
 if (g:Int)<(a1.length:Int) then
  (a1[g]?).bind fun y2=>
  (AA a0 y2.Owner).bind fun r4=>
  if r4=true then
   if IntKind.i64.wrap ((g:Int)+1)=((g+1:Nat):Int) then
    some (.inl (g+1))
   else none
  else
   some (.inr (.inl ()))
 else
  some (.inr (.inr (g,decide ((g:Int)<(a1.length:Int)))))
abbrev M6(v:Nat):St:=⟨[(1,(bE a1)),zP 2,(5,(I (v:Int)))],[(2,(aL a0))],H0⟩
abbrev yr(x:(Unit⊕(Nat×Bool))):bc×St:=match x with | .inl ()=>(.ret,⟨[(4,(.b true))],[],H0⟩) | .inr (z1,z2)=>((.ex 0),⟨[(1,(bE a1)),zP 2,(5,(I (z1:Int))),(9,(.b z2))],[(2,(aL a0))],H0⟩)
theorem Lv(o:Nat⊕(Unit⊕(Nat×Bool)))(h:m5 a0 a1 g=some o):bQ E0 Vb (M6 a0 a1) (yr a0 a1) g o:=
 bZ (ao (.i (a1.length:Int))<|.or (cM<|ao (.n g)<|.ex fun (y2:cp)=>ao (.v (.a [(I y2.Owner),(aS y2.Names)]))<|xB fun r4=>.or (bf<|ao (.i ((g+1:Nat):Int))<|.nil) (bt<|.nil)) (bf<|.nil)) fun L=>ai (aP bV a1)<|cw h (fun h1 h=>TI (aF h1)<|ai (rI g)<|ba h fun y2 h3 h=>ai (aB bV h3)<|eH<|bq h (OB a0 y2.Owner) fun r4 h=>bB h (fun h6 h=>ai (az not h6)<|aO h fun w7 h=>ai w7<|L h) (fun h6 h=>ai (az not h6)<|L h)) (fun h1 h=>ai (aD h1)<|L h)
abbrev QR(a0:Program)(a1:(List cp))(r:Bool):bC×HP:=(.ret (.b r),H0)
def sM:Option Bool:=
 (lp (fun v=>m5 a0 a1 v) 0).bind fun x1=>match x1 with
 | .inl q=>
  some true
 | .inr p=>
  some false
theorem CS(r:Bool)(h:sM a0 a1=some r):call G Ω0 E0 201 [(.a (aL a0)),(.l 155 (a1.map bV))] H0=some (QR a0 a1 r):=
 bj aoQ (.or (.ex fun (q:Unit)=>ao (.cA (yr a0 a1 (.inl q)))<|.nil) (.ex fun (p:(Nat×Bool))=>ao (.cA (yr a0 a1 (.inr p)))<|.nil)) fun L=>ai tt<|dv h (dT (Lv a0 a1) 0) (fun q h=>L h) (fun p h=>L h)
def kT:Option (Nat⊕(Unit⊕(Nat×Bool))):=
 if (c:Int)<(r2.length:Int) then
  (r2[c]?).bind fun y5=>
  if (y5.Kind==2)=true then
   (cU y5.N).bind fun j8=>
   (a0.Vars[j8]?).bind fun t=>
   (sM a0 t.Label.Read).bind fun C=>
   if C=true then
    some (.inr (.inl ()))
   else
    if IntKind.i64.wrap ((c:Int)+1)=((c+1:Nat):Int) then
     some (.inl (c+1))
    else none
  else
   if IntKind.i64.wrap ((c:Int)+1)=((c+1:Nat):Int) then
    some (.inl (c+1))
   else none
 else
  some (.inr (.inr (c,decide ((c:Int)<(r2.length:Int)))))
abbrev M7(v:Nat):St:=⟨[zP 2,(5,(cL r2)),(6,(I (v:Int)))],[(2,(aL a0))],H0⟩
abbrev yt(x:(Unit⊕(Nat×Bool))):bc×St:=match x with | .inl ()=>(.ret,⟨[(4,(.b true))],[],H0⟩) | .inr (z1,z2)=>((.ex 0),⟨[zP 2,(5,(cL r2)),(6,(I (z1:Int))),(26,(.b z2))],[(2,(aL a0))],H0⟩)
theorem Lw(o:Nat⊕(Unit⊕(Nat×Bool)))(h:kT a0 r2 c=some o):bQ E0 UU (M7 a0 r2) (yt a0 r2) c o:=
 bZ (ao (.i (r2.length:Int))<|.or (bt<|ao (.n c)<|.ex fun (y5:ay)=>ao (.v (.a (bL y5)))<|.or (TO<|ao (.n c)<|ao (.v (.a (bL y5)))<|ea<|xN fun j8=>.ex fun (t:Var)=>ao (.v (.a (jk t)))<|mg<|xB fun C=>bt<|oN (ao (.i ((c+1:Nat):Int))<|.nil)) (bf<|bf<|bf<|bf<|bf<|bf<|bf<|bf<|bf<|bf<|bf<|bf<|bf<|bf<|bf<|ao (.i ((c+1:Nat):Int))<|.nil)) (bf<|.nil)) fun L=>ai (aP bw r2)<|cw h (fun h4 h=>wa (aF h4)<|ai (rI c)<|ba h fun y5 h6 h=>ai (dR bw h6 (di _))<|mu<|bB h (fun h7 h=>ai (g1 h7)<|ai (rfl:Z0)<|iT h7<|iT h7<|ai (rfl:Z0)<|iT h7<|iT h7<|iT h7<|ai (rI c)<|ai (dR bw h6 (di _))<|iT h7<|iT h7<|iT h7<|dM h fun j8 h9 h=>ai h9<|ba h fun t y h=>ai (aB dk y)<|iT h7<|iT h7<|iT h7<|iT h7<|bq h (CS a0 t.Label.Read) fun C h=>ai h7<|bB h (fun K h=>ai K<|L h) (fun K h=>ai K<|aO h fun S h=>ai S<|L h)) (fun h7 h=>dC h7<|dC h7<|dC h7<|dC h7<|dC h7<|dC h7<|qg h7<|ai ff<|aO h fun w8 h=>ai w8<|L h)) (fun h4 h=>ai (aD h4)<|L h)
end
section
variable (a0:Program)(a1:Stmt)(r2:(List ay))(c:Nat)
abbrev QS(a0:Program)(a1:Stmt)(r:Bool):bC×HP:=(.ret (.b r),H0)
def sN:Option Bool:=
 if (a1.Kind==6)=true then
  (cU a1.Var).bind fun j2=>
  (a0.Vars[j2]?).bind fun y4=>
  (sM a0 y4.Label.Write).bind fun r6=>
  some r6
 else
  (pJ a1.Expr).bind fun r2=>
  (lp (fun v=>kT a0 r2 v) 0).bind fun x4=>match x4 with
  | .inl w=>
   some true
  | .inr u=>
   some false
theorem Lx(r:Bool)(h:sN a0 a1=some r):call G Ω0 E0 159 [(.a (aL a0)),(.a (ax a1))] H0=some (QS a0 a1 r):=
 bj aoo (bt<|.or (mg<|xN fun j2=>.ex fun (y4:Var)=>ao (.v (.a (jk y4)))<|xB fun r6=>.nil) (we<|.ex fun (r2:(List ay))=>ao (.v (cL r2))<|.or (.ex fun (w:Unit)=>ao (.cA (yt a0 r2 (.inl w)))<|.nil) (.ex fun (u:(Nat×Bool))=>ao (.cA (yt a0 r2 (.inr u)))<|.nil))) fun L=>aZ<|ai (rfl:Z0)<|bB h (fun h1 h=>ai h1<|ai tt<|ai (rfl:Z0)<|aZ<|ai (rfl:Z0)<|aZ<|l3<|dM h fun j2 h3 h=>ai h3<|ba h fun y4 h5 h=>ai (aB dk h5)<|fH<|bq h (CS a0 y4.Label.Write) fun r6 h=>L h) (fun h1 h=>lG h1<|bq h (rK a1.Expr) fun r2 h=>dv h (dT (Lw a0 r2) 0) (fun w h=>L h) (fun u h=>L h))
def kU:Option (Nat⊕(Unit⊕(Nat×Bool))):=
 if (c:Int)<(r2.length:Int) then
  (r2[c]?).bind fun y5=>
  if (y5.Kind==2)=true then
   (cU y5.N).bind fun j8=>
   (a0.Vars[j8]?).bind fun t=>
   if t.Known=true then
    if IntKind.i64.wrap ((c:Int)+1)=((c+1:Nat):Int) then
     some (.inl (c+1))
    else none
   else
    some (.inr (.inl ()))
  else
   if IntKind.i64.wrap ((c:Int)+1)=((c+1:Nat):Int) then
    some (.inl (c+1))
   else none
 else
  some (.inr (.inr (c,decide ((c:Int)<(r2.length:Int)))))
abbrev M8(v:Nat):St:=⟨[zP 2,(5,(cL r2)),(6,(I (v:Int)))],[(2,(aL a0))],H0⟩
abbrev yu(x:(Unit⊕(Nat×Bool))):bc×St:=match x with | .inl ()=>(.ret,⟨[(4,(.b true))],[],H0⟩) | .inr (z1,z2)=>((.ex 0),⟨[zP 2,(5,(cL r2)),(6,(I (z1:Int))),(24,(.b z2))],[(2,(aL a0))],H0⟩)
theorem Ly(o:Nat⊕(Unit⊕(Nat×Bool)))(h:kU a0 r2 c=some o):bQ E0 UW (M8 a0 r2) (yu a0 r2) c o:=
 bZ (ao (.i (r2.length:Int))<|.or (bt<|ao (.n c)<|.ex fun (y5:ay)=>ao (.v (.a (bL y5)))<|.or (PK<|ao (.n c)<|ao (.v (.a (bL y5)))<|ea<|xN fun j8=>.ex fun (t:Var)=>ao (.v (.a (jk t)))<|mg<|.or (bf<|ao (.i ((c+1:Nat):Int))<|.nil) (bt<|.nil)) (bf<|bf<|bf<|bf<|bf<|bf<|bf<|bf<|bf<|bf<|bf<|bf<|bf<|ao (.i ((c+1:Nat):Int))<|.nil)) (bf<|.nil)) fun L=>ai (aP bw r2)<|cw h (fun h4 h=>wa (aF h4)<|ai (rI c)<|ba h fun y5 h6 h=>ai (dR bw h6 (di _))<|mu<|bB h (fun h7 h=>ai (g1 h7)<|iT h7<|ai (rfl:Z0)<|iT h7<|iT h7<|iT h7<|ai (rI c)<|ai (dR bw h6 (di _))<|iT h7<|iT h7<|iT h7<|dM h fun j8 h9 h=>ai h9<|ba h fun t y h=>ai (aB dk y)<|Mk h7<|bB h (fun M h=>ai (az not M)<|aO h fun U h=>ai U<|L h) (fun M h=>ai (az not M)<|L h)) (fun h7 h=>dC h7<|dC h7<|dC h7<|dC h7<|dC h7<|qg h7<|ai ff<|aO h fun w8 h=>ai w8<|L h)) (fun h4 h=>ai (aD h4)<|L h)
abbrev QT(a0:Program)(a1:Stmt)(r:Bool):bC×HP:=(.ret (.b r),H0)
def sO:Option Bool:=
 if (a1.Kind==6)=true then
  (cU a1.Var).bind fun j2=>
  (a0.Vars[j2]?).bind fun y4=>
  some (!y4.Known)
 else
  (pJ a1.Expr).bind fun r2=>
  (lp (fun v=>kU a0 r2 v) 0).bind fun x4=>match x4 with
  | .inl w=>
   some true
  | .inr u=>
   some false
theorem Lz(r:Bool)(h:sO a0 a1=some r):call G Ω0 E0 160 [(.a (aL a0)),(.a (ax a1))] H0=some (QT a0 a1 r):=
 bj aop (bt<|.or (ea<|xN fun j2=>.ex fun (y4:Var)=>ao (.v (.a (jk y4)))<|.nil) (we<|.ex fun (r2:(List ay))=>ao (.v (cL r2))<|.or (.ex fun (w:Unit)=>ao (.cA (yu a0 r2 (.inl w)))<|.nil) (.ex fun (u:(Nat×Bool))=>ao (.cA (yu a0 r2 (.inr u)))<|.nil))) fun L=>aZ<|ai (rfl:Z0)<|bB h (fun h1 h=>TE h1<|dM h fun j2 h3 h=>ai h3<|ba h fun y4 h5 h=>ai (aB dk h5)<|L h) (fun h1 h=>lG h1<|bq h (rK a1.Expr) fun r2 h=>dv h (dT (Ly a0 r2) 0) (fun w h=>L h) (fun u h=>L h))
end
end
end Go.Proofs.YtlmphbbhaeampaaGreat.A
