/- Functions of the program as plain functions, by program. -/
import Derived.Test.YtkkkkondjclcnaaGreatTypes
import Derived.Test.YtkkkkondjclcnaaGreatBase
import Derived.Test.YtkkkkondjclcnaaGreatRWalk
import Derived.Test.YtkkkkondjclcnaaGreatFR
set_option linter.all false
set_option maxRecDepth 100000
namespace Go.Proofs.YtkkkkondjclcnaaGreat.A
open Go
noncomputable section
variable [Lp]
section
variable (a0:ak)(t:(List Bool))(f:Nat)(a2:Int)(m:Nat)(g:(List Bool))(a1:Int)
def nQ:Option (((List Bool)×Nat)⊕((List Bool)×Nat×Bool)):=
 if (f:Int)<(a0.Grants.length:Int) then
  (a0.Grants[f]?).bind fun s=>
  (dV s.Who).bind fun j12=>
  (t[j12]?).bind fun E=>
  if E=true then
   (dV s.For).bind fun j17=>
   (t[j17]?).bind fun J=>
   if IntKind.i64.wrap ((f:Int)+1)=((f+1:Nat):Int) then
    some (.inl (t.set j17 true,f+1))
   else none
  else
   if IntKind.i64.wrap ((f:Int)+1)=((f+1:Nat):Int) then
    some (.inl (t,f+1))
   else none
 else
  some (.inr (t,f,decide ((f:Int)<(a0.Grants.length:Int))))
abbrev Nw(v:((List Bool)×Nat)):St:=⟨[(2,(I a2)),zP 3,(7,(iW v.1)),(8,(zI m)),(9,(I (v.2:Int)))],[(3,[(I a0.Many),(aQ a0.Grants)])],H0⟩
abbrev ES(x:((List Bool)×Nat×Bool)):aN×St:=((.ex 2),⟨[(2,(I a2)),zP 3,(7,(iW x.1)),(8,(zI m)),(9,(I (x.2.1:Int))),(26,(.b x.2.2))],[(3,[(I a0.Many),(aQ a0.Grants)])],H0⟩)
theorem LV(t:(List Bool))(f:Nat)(o:((List Bool)×Nat)⊕((List Bool)×Nat×Bool))(h:nQ a0 t f=some o):bO E0 T9 (Nw a0 a2 m) (ES a0 a2 m) (t,f) o:=
 bZ (bt<|ao (.i (a0.Grants.length:Int))<|.or (fN<|ao (.n f)<|.ex fun (s:dv)=>ao (.v (.a [(I s.Who),(I s.For)]))<|xN fun j12=>xB fun E=>ao (.v (.b E))<|.or (fN<|ao (.n f)<|ao (.v (.a [(I s.Who),(I s.For)]))<|xN fun j17=>xB fun J=>ao (.v (.b J))<|ao (.l ((t.set j17 true).map AV.b))<|ao (.i ((f+1:Nat):Int))<|.nil) (bf<|ao (.i ((f+1:Nat):Int))<|.nil)) (bf<|.nil)) fun L=>ai (rfl:Z0)<|ai (aJ ct a0.Grants)<|cp h (fun h9 h=>oY (aA h9)<|ai (rI f)<|cn h fun s y h=>ai (aM ct y)<|mZ h fun j12 H h=>ai H<|cn h fun E Q h=>ai (aM AV.b Q)<|ai (aM AV.b Q)<|cG h (fun K h=>oY K<|ai (rI f)<|ai (aM ct y)<|mZ h fun j17 Y h=>ai Y<|cn h fun J P h=>ai (aM AV.b P)<|ai ff<|ai (aM AV.b P)<|ai (map_set .. : (t.map AV.b).set j17 (.b true)=(t.set j17 true).map AV.b)<|aW h fun R h=>ai R<|L h) (fun K h=>ai K<|aW h fun S h=>ai S<|L h)) (fun h9 h=>ai (ay h9)<|L h)
def nR(m:Nat):Option (((List Bool)×Nat)⊕((List Bool)×Nat×Bool)):=
 if (m:Int)<a0.Many then
  (lp (fun v=>nQ a0 v.1 v.2) (g,0)).bind fun x9=>
  if IntKind.i64.wrap ((m:Int)+1)=((m+1:Nat):Int) then
   some (.inl (x9.1,m+1))
  else none
 else
  some (.inr (g,m,decide ((m:Int)<a0.Many)))
abbrev Ny(v:((List Bool)×Nat)):St:=⟨[(2,(I a2)),zP 3,(7,(iW v.1)),(8,(I (v.2:Int)))],[(3,[(I a0.Many),(aQ a0.Grants)])],H0⟩
abbrev ET(x:((List Bool)×Nat×Bool)):aN×St:=((.ex 0),⟨[(2,(I a2)),zP 3,(7,(iW x.1)),(8,(I (x.2.1:Int))),(19,(.b x.2.2))],[(3,[(I a0.Many),(aQ a0.Grants)])],H0⟩)
theorem LX(m:Nat)(o:((List Bool)×Nat)⊕((List Bool)×Nat×Bool))(h:nR a0 g m=some o):bO E0 Ua (Ny a0 a2) (ET a0 a2) (g,m) o:=
 bZ (bt<|.or (bt<|.ex fun (x9:((List Bool)×Nat×Bool))=>ao (.cD (ES a0 a2 m x9))<|ao (.i ((m+1:Nat):Int))<|.nil) (bf<|.nil)) fun L=>ai (rfl:Z0)<|cp h (fun h8 h=>ai (aA h8)<|bJ h (fC (fun v=>LV a0 a2 m v.1 v.2) (g,0)) fun x9 h=>aW h fun W h=>ai W<|L h) (fun h8 h=>ai (ay h8)<|L h)
abbrev QT(a0:ak)(a1:Int)(a2:Int)(r:Bool):bH×HP:=(.ret (.b r),H0)
def mD(a2:Int):Option Bool:=
 (dV a0.Many).bind fun j1=>
 if j1≤1000000000 then
  (dV a1).bind fun j4=>
  ((List.replicate j1 false)[j4]?).bind fun y6=>
  (lp (fun v=>nR a0 v.1 v.2) (((List.replicate j1 false).set j4 true),0)).bind fun x8=>
  (dV a2).bind fun j10=>
  (x8.1[j10]?).bind fun F=>
  some F
 else none
theorem tL(a2:Int)(r:Bool)(h:mD a0 a1 a2=some r):call G Ω0 E0 125 [(.a [(I a0.Many),(.l 166 (a0.Grants.map ct))]),(I a1),(I a2)] H0=some (QT a0 a1 a2 r):=
 bu al2 (bt<|xN fun j1=>ao (.l ((List.replicate j1 false).map AV.b))<|xN fun j4=>xB fun y6=>ao (.v (.b y6))<|ao (.l (((List.replicate j1 false).set j4 true).map AV.b))<|.ex fun (x8:((List Bool)×Nat×Bool))=>ao (.cD (ET a0 a2 x8))<|xN fun j10=>xB fun F=>ao (.v (.b F))<|.nil) fun L=>vX<|mZ h fun j1 h2 h=>ai h2<|aW h fun h3 h=>ai ((NV h3 (by decide)):j1*1≤140737488355328)<|ai ((NW h3):j1≤maxLen)<|ai ((BC ..).symm:List.replicate j1 (.b false)=(List.replicate j1 false).map AV.b)<|mZ h fun j4 h5 h=>ai h5<|cn h fun y6 h7 h=>ai (aM AV.b h7)<|ai ff<|ai (aM AV.b h7)<|ai (map_set .. : ((List.replicate j1 false).map AV.b).set j4 (.b true)=((List.replicate j1 false).set j4 true).map AV.b)<|bJ h (fC (fun v=>LX a0 a2 v.1 v.2) (((List.replicate j1 false).set j4 true),0)) fun x8 h=>mZ h fun j10 y h=>ai y<|cn h fun F H h=>ai (aM AV.b H)<|ai (aM AV.b H)<|L h
end
section
variable (a0:ak)(a1:Int)(a2:(List bz))(g:Nat)(z:Bool)(f:Nat)
def vP:Option ((Bool×Nat)⊕(Bool×Nat×Bool)):=
 (a2[g]?).bind fun y6=>
 if (f:Int)<(y6.Names.length:Int) then
  if z=true then
   if IntKind.i64.wrap ((f:Int)+1)=((f+1:Nat):Int) then
    some (.inl (true,f+1))
   else none
  else
   (y6.Names[f]?).bind fun s=>
   (mD a0 a1 s).bind fun D=>
   if IntKind.i64.wrap ((f:Int)+1)=((f+1:Nat):Int) then
    some (.inl (D,f+1))
   else none
 else
  some (.inr (z,f,decide ((f:Int)<(y6.Names.length:Int))))
abbrev Vq(v:(Bool×Nat)):St:=⟨[(1,(I a1)),(2,(bm a2)),zP 3,(7,(zI g)),(8,(.b v.1)),(9,(I (v.2:Int)))],[(3,[(I a0.Many),(aQ a0.Grants)])],H0⟩
abbrev MT(x:(Bool×Nat×Bool)):aN×St:=((.ex 2),⟨[(1,(I a1)),(2,(bm a2)),zP 3,(7,(zI g)),(8,(.b x.1)),(9,(I (x.2.1:Int))),(31,(.b x.2.2))],[(3,[(I a0.Many),(aQ a0.Grants)])],H0⟩)
theorem Tl(o:(Bool×Nat)⊕(Bool×Nat×Bool))(h:vP a0 a1 a2 g z f=some o):bO E0 T5 (Vq a0 a1 a2 g) (MT a0 a1 a2 g) (z,f) o:=
 bZ (ao (.n g)<|.ex fun (y6:bz)=>ao (.v (.a [(I y6.Owner),(dx y6.Names)]))<|ao (.i (y6.Names.length:Int))<|.or (bt<|.or (bf<|bf<|bf<|bf<|bf<|bf<|bf<|bf<|bf<|bf<|bf<|bt<|ao (.i ((f+1:Nat):Int))<|.nil) (Wo<|ao (.n g)<|ao (.v (.a [(I y6.Owner),(dx y6.Names)]))<|rz<|ao (.n f)<|xI fun s=>fN<|xB fun D=>bf<|ao (.i ((f+1:Nat):Int))<|.nil)) (bf<|.nil)) fun L=>ai (rI g)<|cn h fun y6 h7 h=>ai (aM bj h7)<|ai (aJ (I) y6.Names)<|cp h (fun h8 h=>Oz (aA h8)<|cG h (fun h9 h=>cq h9<|cq h9<|cq h9<|cq h9<|cq h9<|oL h9<|aW h fun X h=>ai X<|L h) (fun h9 h=>ai (g0 h9)<|gT<|FT h9<|ai tt<|FT h9<|ai (rI g)<|ai (aM bj h7)<|ai tt<|FT h9<|ai tt<|FT h9<|ai (rI f)<|cn h fun s y h=>ai (aM (I) y)<|ai tt<|FT h9<|bJ h (tL a0 a1 s) fun D h=>ai h9<|aW h fun U h=>ai U<|L h)) (fun h8 h=>ai (ay h8)<|L h)
def vQ:Option (Nat⊕(Unit⊕(Nat×Bool))):=
 if (g:Int)<(a2.length:Int) then
  (a2[g]?).bind fun y2=>
  (mD a0 a1 y2.Owner).bind fun r4=>
  (lp (fun v=>vP a0 a1 a2 g v.1 v.2) (r4,0)).bind fun x6=>
  if x6.1=true then
   if IntKind.i64.wrap ((g:Int)+1)=((g+1:Nat):Int) then
    some (.inl (g+1))
   else none
  else
   some (.inr (.inl ()))
 else
  some (.inr (.inr (g,decide ((g:Int)<(a2.length:Int)))))
abbrev Vr(v:Nat):St:=⟨[(1,(I a1)),(2,(bm a2)),zP 3,(7,(I (v:Int)))],[(3,[(I a0.Many),(aQ a0.Grants)])],H0⟩
abbrev Gz(x:(Unit⊕(Nat×Bool))):aN×St:=match x with | .inl ()=>(.ret,⟨[(6,(.b false))],[],H0⟩) | .inr (z1,z2)=>((.ex 0),⟨[(1,(I a1)),(2,(bm a2)),zP 3,(7,(I (z1:Int))),(13,(.b z2))],[(3,[(I a0.Many),(aQ a0.Grants)])],H0⟩)
theorem Tm(o:Nat⊕(Unit⊕(Nat×Bool)))(h:vQ a0 a1 a2 g=some o):bO E0 T6 (Vr a0 a1 a2) (Gz a0 a1 a2) g o:=
 bZ (ao (.i (a2.length:Int))<|.or (fN<|ao (.n g)<|.ex fun (y2:bz)=>ao (.v (.a [(I y2.Owner),(dx y2.Names)]))<|xB fun r4=>.ex fun (x6:(Bool×Nat×Bool))=>ao (.cD (MT a0 a1 a2 g x6))<|.or (bf<|ao (.i ((g+1:Nat):Int))<|.nil) (bt<|.nil)) (bf<|.nil)) fun L=>ai (aJ bj a2)<|cp h (fun h1 h=>ai (aA h1)<|ai tt<|ai (rfl:Z0)<|cg<|cg<|ai (rI g)<|cn h fun y2 h3 h=>ai (aM bj h3)<|zb<|bJ h (tL a0 a1 y2.Owner) fun r4 h=>bJ h (fC (fun v=>Tl a0 a1 a2 g v.1 v.2) (r4,0)) fun x6 h=>cG h (fun h8 h=>ai (an not h8)<|aW h fun w9 h=>ai w9<|L h) (fun h8 h=>ai (an not h8)<|L h)) (fun h1 h=>ai (ay h1)<|L h)
abbrev ZP(a0:ak)(a1:Int)(a2:(List bz))(r:Bool):bH×HP:=(.ret (.b r),H0)
def DN:Option Bool:=
 (lp (fun v=>vQ a0 a1 a2 v) 0).bind fun x1=>match x1 with
 | .inl q=>
  some false
 | .inr p=>
  some true
theorem Ku(r:Bool)(h:DN a0 a1 a2=some r):call G Ω0 E0 116 [(.a [(I a0.Many),(.l 166 (a0.Grants.map ct))]),(I a1),(.l 138 (a2.map bj))] H0=some (ZP a0 a1 a2 r):=
 bu alW (.or (.ex fun (q:Unit)=>ao (.cD (Gz a0 a1 a2 (.inl q)))<|.nil) (.ex fun (p:(Nat×Bool))=>ao (.cD (Gz a0 a1 a2 (.inr p)))<|.nil)) fun L=>ai tt<|fc h (fC (Tm a0 a1 a2) 0) (fun q h=>L h) (fun p h=>L h)
end
section
variable (a0:ak)(a1:Label)(d:Nat)(k:(List Bool))(j:(List Bool))
def qP:Option ((Nat×(List Bool)×(List Bool))⊕(Nat×Bool×(List Bool)×(List Bool))):=
 if (d:Int)<a0.Many then
  (DN a0 (d:Int) a1.Read).bind fun r2=>
  if k.length + [r2].length≤1000000000 then
   (DN a0 (d:Int) a1.Write).bind fun r5=>
   if j.length + [r5].length≤1000000000 then
    if IntKind.i64.wrap ((d:Int)+1)=((d+1:Nat):Int) then
     some (.inl (d+1,k++[r2],j++[r5]))
    else none
   else none
  else none
 else
  some (.inr (d,decide ((d:Int)<a0.Many),k,j))
abbrev Nz(v:(Nat×(List Bool)×(List Bool))):St:=⟨[zP 2,zP 3,zP 4,zP 5,(6,(I (v.1:Int)))],[(2,[(I a0.Many),(aQ a0.Grants)]),(3,[(bm a1.Read),(bm a1.Write)]),(4,[(dQ ([]:List Bool)),(dQ ([]:List Bool))]),(5,[(iW v.2.1),(iW v.2.2)])],H0⟩
abbrev EU(x:(Nat×Bool×(List Bool)×(List Bool))):aN×St:=((.ex 0),⟨[zP 2,zP 3,zP 4,zP 5,(6,(I (x.1:Int))),(10,(.b x.2.1))],[(2,[(I a0.Many),(aQ a0.Grants)]),(3,[(bm a1.Read),(bm a1.Write)]),(4,[(dQ ([]:List Bool)),(dQ ([]:List Bool))]),(5,[(iW x.2.2.1),(iW x.2.2.2)])],H0⟩)
theorem LY(o:(Nat×(List Bool)×(List Bool))⊕(Nat×Bool×(List Bool)×(List Bool)))(h:qP a0 a1 d k j=some o):bO E0 Yh (Nz a0 a1) (EU a0 a1) (d,k,j) o:=
 bZ (bt<|.or (rz<|xB fun r2=>ao (.l ([r2].map AV.b))<|ja<|ao (.l ((k++[r2]).map AV.b))<|wP<|xB fun r5=>ao (.l ([r5].map AV.b))<|ja<|ao (.l ((j++[r5]).map AV.b))<|fN<|ao (.i ((d+1:Nat):Int))<|.nil) (bf<|.nil)) fun L=>ai (rfl:Z0)<|cp h (fun h1 h=>ai (aA h1)<|cg<|gT<|ai (rfl:Z0)<|cg<|ai tt<|gT<|bJ h (Ku a0 (d:Int) a1.Read) fun r2 h=>ai tt<|ai (rfl:[(.b r2)]=[r2].map AV.b)<|ai tt<|ai ff<|lZ<|ai (rfl:Z0)<|aW h fun h4 h=>ai ((mY AV.b (n:=1) (fun _=>rfl) [r2]):([r2].map AV.b).all (fun e=>e.nc==1)=true)<|ai ((rr h4 (by decide)):((k.map AV.b).length+([r2].map AV.b).length)*1≤140737488355328)<|ai ((rv h4):(k.map AV.b).length+([r2].map AV.b).length≤maxLen)<|ai (ei.symm:k.map AV.b++[r2].map AV.b=(k++[r2]).map AV.b)<|ai ff<|lZ<|cg<|gT<|ai (rfl:Z0)<|cg<|ai tt<|gT<|bJ h (Ku a0 (d:Int) a1.Write) fun r5 h=>ai tt<|ai (rfl:[(.b r5)]=[r5].map AV.b)<|ai tt<|ai ff<|lZ<|ai (rfl:Z0)<|aW h fun h7 h=>ai ((mY AV.b (n:=1) (fun _=>rfl) [r5]):([r5].map AV.b).all (fun e=>e.nc==1)=true)<|ai ((rr h7 (by decide)):((j.map AV.b).length+([r5].map AV.b).length)*1≤140737488355328)<|ai ((rv h7):(j.map AV.b).length+([r5].map AV.b).length≤maxLen)<|ai (ei.symm:j.map AV.b++[r5].map AV.b=(j++[r5]).map AV.b)<|ai ff<|lZ<|aW h fun w8 h=>ai w8<|L h) (fun h1 h=>ai (ay h1)<|L h)
abbrev QU(a0:ak)(a1:Label)(r:Level):bH×HP:=(.ret (.a [(.l 4 (r.Readers.map AV.b)),(.l 4 (r.Writers.map AV.b))]),H0)
def lh:Option Level:=
 (lp (fun v=>qP a0 a1 v.1 v.2.1 v.2.2) (0,([]:List Bool),([]:List Bool))).bind fun x1=>
 some (⟨x1.2.2.1,x1.2.2.2⟩:Level)
theorem tM(r:Level)(h:lh a0 a1=some r):call G Ω0 E0 55 [(.a [(I a0.Many),(.l 166 (a0.Grants.map ct))]),(.a [(.l 138 (a1.Read.map bj)),(.l 138 (a1.Write.map bj))])] H0=some (QU a0 a1 r):=
 bu G55 (rz<|.ex fun (x1:(Nat×Bool×(List Bool)×(List Bool)))=>ao (.cD (EU a0 a1 x1))<|Wr<|.nil) fun L=>cg<|cg<|ai ff<|lZ<|ai ff<|lZ<|bJ h (fC (fun v=>LY a0 a1 v.1 v.2.1 v.2.2) (0,([]:List Bool),([]:List Bool))) fun x1 h=>ai ff<|lZ<|ai ff<|lZ<|ai (rfl:Z0)<|ai ff<|gT<|lZ<|L h
end
section
variable (a0:Program)(a1:Int)(c:Nat)
def jw:Option (Nat⊕(Unit⊕(Nat×Bool))):=
 if (c:Int)<(a0.Speak.length:Int) then
  (a0.Speak[c]?).bind fun y2=>
  (mD a0.ak a1 y2).bind fun r4=>
  if r4=true then
   some (.inr (.inl ()))
  else
   if IntKind.i64.wrap ((c:Int)+1)=((c+1:Nat):Int) then
    some (.inl (c+1))
   else none
 else
  some (.inr (.inr (c,decide ((c:Int)<(a0.Speak.length:Int)))))
abbrev GA(v:Nat):St:=⟨[(1,(I a1)),zP 2,(5,(I (v:Int)))],[(2,(av a0))],H0⟩
abbrev sK(x:(Unit⊕(Nat×Bool))):aN×St:=match x with | .inl ()=>(.ret,⟨[(4,(.b true))],[],H0⟩) | .inr (z1,z2)=>((.ex 0),⟨[(1,(I a1)),zP 2,(5,(I (z1:Int))),(10,(.b z2))],[(2,(av a0))],H0⟩)
theorem Fg(o:Nat⊕(Unit⊕(Nat×Bool)))(h:jw a0 a1 c=some o):bO E0 Yt (GA a0 a1) (sK a0 a1) c o:=
 bZ (bt<|ao (.i (a0.Speak.length:Int))<|.or (ja<|ao (.n c)<|xI fun y2=>xB fun r4=>oN (ao (.i ((c+1:Nat):Int))<|.nil)) (bf<|.nil)) fun L=>ai (rfl:Z0)<|ai (aJ (I) a0.Speak)<|cp h (fun h1 h=>ai (aA h1)<|cg<|ai (rfl:Z0)<|cg<|ai tt<|ai (rfl:Z0)<|cg<|ai (rI c)<|cn h fun y2 h3 h=>ai (aM (I) h3)<|cg<|bJ h (tL a0.ak a1 y2) fun r4 h=>cG h (fun h6 h=>ai h6<|L h) (fun h6 h=>ai h6<|aW h fun w7 h=>ai w7<|L h)) (fun h1 h=>ai (ay h1)<|L h)
abbrev IX(a0:Program)(a1:Int)(r:Bool):bH×HP:=(.ret (.b r),H0)
def kY:Option Bool:=
 (lp (fun v=>jw a0 a1 v) 0).bind fun x1=>match x1 with
 | .inl q=>
  some true
 | .inr p=>
  some false
theorem Fh(r:Bool)(h:kY a0 a1=some r):call G Ω0 E0 80 [(.a (av a0)),(I a1)] H0=some (IX a0 a1 r):=
 bu G80 (.or (.ex fun (q:Unit)=>ao (.cD (sK a0 a1 (.inl q)))<|.nil) (.ex fun (p:(Nat×Bool))=>ao (.cD (sK a0 a1 (.inr p)))<|.nil)) fun L=>ai tt<|fc h (fC (Fg a0 a1) 0) (fun q h=>L h) (fun p h=>L h)
def pF:Option (Nat⊕(Unit⊕(Nat×Bool))):=
 if (c:Int)<(a0.Speak.length:Int) then
  (a0.Speak[c]?).bind fun y2=>
  (mD a0.ak y2 a1).bind fun r4=>
  if r4=true then
   some (.inr (.inl ()))
  else
   if IntKind.i64.wrap ((c:Int)+1)=((c+1:Nat):Int) then
    some (.inl (c+1))
   else none
 else
  some (.inr (.inr (c,decide ((c:Int)<(a0.Speak.length:Int)))))
abbrev PE(v:Nat):St:=⟨[(1,(I a1)),zP 2,(5,(I (v:Int)))],[(2,(av a0))],H0⟩
abbrev Bf(x:(Unit⊕(Nat×Bool))):aN×St:=match x with | .inl ()=>(.ret,⟨[(4,(.b true))],[],H0⟩) | .inr (z1,z2)=>((.ex 0),⟨[(1,(I a1)),zP 2,(5,(I (z1:Int))),(10,(.b z2))],[(2,(av a0))],H0⟩)
theorem NA(o:Nat⊕(Unit⊕(Nat×Bool)))(h:pF a0 a1 c=some o):bO E0 Um (PE a0 a1) (Bf a0 a1) c o:=
 bZ (bt<|ao (.i (a0.Speak.length:Int))<|.or (ja<|ao (.n c)<|xI fun y2=>xB fun r4=>oN (ao (.i ((c+1:Nat):Int))<|.nil)) (bf<|.nil)) fun L=>ai (rfl:Z0)<|ai (aJ (I) a0.Speak)<|cp h (fun h1 h=>ai (aA h1)<|cg<|ai (rfl:Z0)<|cg<|ai (rfl:Z0)<|cg<|ai (rI c)<|cn h fun y2 h3 h=>ai (aM (I) h3)<|zb<|bJ h (tL a0.ak y2 a1) fun r4 h=>cG h (fun h6 h=>ai h6<|L h) (fun h6 h=>ai h6<|aW h fun w7 h=>ai w7<|L h)) (fun h1 h=>ai (ay h1)<|L h)
abbrev Tn(a0:Program)(a1:Int)(r:Bool):bH×HP:=(.ret (.b r),H0)
def Ae:Option Bool:=
 (lp (fun v=>pF a0 a1 v) 0).bind fun x1=>match x1 with
 | .inl q=>
  some true
 | .inr p=>
  some false
theorem NB(r:Bool)(h:Ae a0 a1=some r):call G Ω0 E0 151 [(.a (av a0)),(I a1)] H0=some (Tn a0 a1 r):=
 bu amh (.or (.ex fun (q:Unit)=>ao (.cD (Bf a0 a1 (.inl q)))<|.nil) (.ex fun (p:(Nat×Bool))=>ao (.cD (Bf a0 a1 (.inr p)))<|.nil)) fun L=>ai tt<|fc h (fC (NA a0 a1) 0) (fun q h=>L h) (fun p h=>L h)
end
section
variable (a0:Program)(a1:(List bz))(c:Nat)(r2:(List aB))(d:Nat)
def mM:Option (Nat⊕(Unit⊕(Nat×Bool))):=
 if (c:Int)<(a1.length:Int) then
  (a1[c]?).bind fun y2=>
  (Ae a0 y2.Owner).bind fun r4=>
  if r4=true then
   if IntKind.i64.wrap ((c:Int)+1)=((c+1:Nat):Int) then
    some (.inl (c+1))
   else none
  else
   some (.inr (.inl ()))
 else
  some (.inr (.inr (c,decide ((c:Int)<(a1.length:Int)))))
abbrev LZ(v:Nat):St:=⟨[(1,(bm a1)),zP 2,(5,(I (v:Int)))],[(2,(av a0))],H0⟩
abbrev xM(x:(Unit⊕(Nat×Bool))):aN×St:=match x with | .inl ()=>(.ret,⟨[(4,(.b true))],[],H0⟩) | .inr (z1,z2)=>((.ex 0),⟨[(1,(bm a1)),zP 2,(5,(I (z1:Int))),(9,(.b z2))],[(2,(av a0))],H0⟩)
theorem Kv(o:Nat⊕(Unit⊕(Nat×Bool)))(h:mM a0 a1 c=some o):bO E0 T8 (LZ a0 a1) (xM a0 a1) c o:=
 bZ (ao (.i (a1.length:Int))<|.or (fN<|ao (.n c)<|.ex fun (y2:bz)=>ao (.v (.a [(I y2.Owner),(dx y2.Names)]))<|xB fun r4=>.or (bf<|ao (.i ((c+1:Nat):Int))<|.nil) (bt<|.nil)) (bf<|.nil)) fun L=>ai (aJ bj a1)<|cp h (fun h1 h=>ai (aA h1)<|ai tt<|ai (rfl:Z0)<|cg<|ai tt<|ai (rI c)<|cn h fun y2 h3 h=>ai (aM bj h3)<|zb<|bJ h (NB a0 y2.Owner) fun r4 h=>cG h (fun h6 h=>ai (an not h6)<|aW h fun w7 h=>ai w7<|L h) (fun h6 h=>ai (an not h6)<|L h)) (fun h1 h=>ai (ay h1)<|L h)
abbrev PF(a0:Program)(a1:(List bz))(r:Bool):bH×HP:=(.ret (.b r),H0)
def sL:Option Bool:=
 (lp (fun v=>mM a0 a1 v) 0).bind fun x1=>match x1 with
 | .inl q=>
  some true
 | .inr p=>
  some false
theorem Cf(r:Bool)(h:sL a0 a1=some r):call G Ω0 E0 124 [(.a (av a0)),(.l 138 (a1.map bj))] H0=some (PF a0 a1 r):=
 bu al1 (.or (.ex fun (q:Unit)=>ao (.cD (xM a0 a1 (.inl q)))<|.nil) (.ex fun (p:(Nat×Bool))=>ao (.cD (xM a0 a1 (.inr p)))<|.nil)) fun L=>ai tt<|fc h (fC (Kv a0 a1) 0) (fun q h=>L h) (fun p h=>L h)
def kZ:Option (Nat⊕(Unit⊕(Nat×Bool))):=
 if (d:Int)<(r2.length:Int) then
  (r2[d]?).bind fun y5=>
  if (y5.Kind==2)=true then
   (dV y5.N).bind fun j8=>
   (a0.Vars[j8]?).bind fun s=>
   (sL a0 s.Label.Read).bind fun D=>
   if D=true then
    some (.inr (.inl ()))
   else
    if IntKind.i64.wrap ((d:Int)+1)=((d+1:Nat):Int) then
     some (.inl (d+1))
    else none
  else
   if IntKind.i64.wrap ((d:Int)+1)=((d+1:Nat):Int) then
    some (.inl (d+1))
   else none
 else
  some (.inr (.inr (d,decide ((d:Int)<(r2.length:Int)))))
abbrev L0(v:Nat):St:=⟨[zP 2,(5,(dO r2)),(6,(I (v:Int)))],[(2,(av a0))],H0⟩
abbrev xO(x:(Unit⊕(Nat×Bool))):aN×St:=match x with | .inl ()=>(.ret,⟨[(4,(.b true))],[],H0⟩) | .inr (z1,z2)=>((.ex 0),⟨[zP 2,(5,(dO r2)),(6,(I (z1:Int))),(26,(.b z2))],[(2,(av a0))],H0⟩)
theorem Kw(o:Nat⊕(Unit⊕(Nat×Bool)))(h:kZ a0 r2 d=some o):bO E0 Yr (L0 a0 r2) (xO a0 r2) d o:=
 bZ (ao (.i (r2.length:Int))<|.or (bt<|ao (.n d)<|.ex fun (y5:aB)=>ao (.v (.a (ep y5)))<|.or (bt<|bt<|bt<|bt<|bt<|bt<|bt<|bt<|ao (.n d)<|ao (.v (.a (ep y5)))<|ja<|xN fun j8=>.ex fun (s:Var)=>ao (.v (.a (FU s)))<|rz<|xB fun D=>bt<|oN (ao (.i ((d+1:Nat):Int))<|.nil)) (bf<|bf<|bf<|bf<|bf<|bf<|bf<|bf<|bf<|bf<|bf<|bf<|bf<|bf<|bf<|ao (.i ((d+1:Nat):Int))<|.nil)) (bf<|.nil)) fun L=>ai (aJ aT r2)<|cp h (fun h4 h=>Oz (aA h4)<|ai (rI d)<|cn h fun y5 h6 h=>ai (kS aT h6 (dj _))<|cg<|cg<|ai tt<|cG h (fun h7 h=>ai (g1 h7)<|gT<|Cy h7<|gT<|Cy h7<|ai tt<|ai (g1 h7)<|ai (rI d)<|ai (kS aT h6 (dj _))<|ai tt<|Cy h7<|ai tt<|ai (g1 h7)<|mZ h fun j8 h9 h=>ai h9<|cn h fun s y h=>ai (aM eo y)<|ai tt<|Cy h7<|ai tt<|Cy h7<|bJ h (Cf a0 s.Label.Read) fun D h=>ai h7<|cG h (fun M h=>ai M<|L h) (fun M h=>ai M<|aW h fun T h=>ai T<|L h)) (fun h7 h=>cu h7<|cu h7<|cu h7<|cu h7<|cu h7<|cu h7<|nB h7<|ai ff<|aW h fun w8 h=>ai w8<|L h)) (fun h4 h=>ai (ay h4)<|L h)
end
section
variable (a0:Program)(a1:Stmt)(r2:(List aB))(d:Nat)
abbrev PG(a0:Program)(a1:Stmt)(r:Bool):bH×HP:=(.ret (.b r),H0)
def sM:Option Bool:=
 if (a1.Kind==6)=true then
  (dV a1.Var).bind fun j2=>
  (a0.Vars[j2]?).bind fun y4=>
  (sL a0 y4.Label.Write).bind fun r6=>
  some r6
 else
  (pD a1.Expr).bind fun r2=>
  (lp (fun v=>kZ a0 r2 v) 0).bind fun x4=>match x4 with
  | .inl w=>
   some true
  | .inr u=>
   some false
theorem Kx(r:Bool)(h:sM a0 a1=some r):call G Ω0 E0 78 [(.a (av a0)),(.a (aD a1))] H0=some (PG a0 a1 r):=
 bu G78 (bt<|.or (rz<|xN fun j2=>.ex fun (y4:Var)=>ao (.v (.a (FU y4)))<|xB fun r6=>.nil) (bf<|bt<|.ex fun (r2:(List aB))=>ao (.v (dO r2))<|.or (.ex fun (w:Unit)=>ao (.cD (xO a0 r2 (.inl w)))<|.nil) (.ex fun (u:(Nat×Bool))=>ao (.cD (xO a0 r2 (.inr u)))<|.nil))) fun L=>cg<|ai (rfl:Z0)<|cG h (fun h1 h=>ai h1<|ai tt<|ai (rfl:Z0)<|cg<|ai (rfl:Z0)<|cg<|gT<|mZ h fun j2 h3 h=>ai h3<|cn h fun y4 h5 h=>ai (aM eo h5)<|Cw<|bJ h (Cf a0 y4.Label.Write) fun r6 h=>L h) (fun h1 h=>oY h1<|bJ h (rL a1.Expr) fun r2 h=>fc h (fC (Kw a0 r2) 0) (fun w h=>L h) (fun u h=>L h))
def k7:Option (Nat⊕(Unit⊕(Nat×Bool))):=
 if (d:Int)<(r2.length:Int) then
  (r2[d]?).bind fun y5=>
  if (y5.Kind==2)=true then
   (dV y5.N).bind fun j8=>
   (a0.Vars[j8]?).bind fun s=>
   if s.Known=true then
    if IntKind.i64.wrap ((d:Int)+1)=((d+1:Nat):Int) then
     some (.inl (d+1))
    else none
   else
    some (.inr (.inl ()))
  else
   if IntKind.i64.wrap ((d:Int)+1)=((d+1:Nat):Int) then
    some (.inl (d+1))
   else none
 else
  some (.inr (.inr (d,decide ((d:Int)<(r2.length:Int)))))
abbrev L1(v:Nat):St:=⟨[zP 2,(5,(dO r2)),(6,(I (v:Int)))],[(2,(av a0))],H0⟩
abbrev xP(x:(Unit⊕(Nat×Bool))):aN×St:=match x with | .inl ()=>(.ret,⟨[(4,(.b true))],[],H0⟩) | .inr (z1,z2)=>((.ex 0),⟨[zP 2,(5,(dO r2)),(6,(I (z1:Int))),(24,(.b z2))],[(2,(av a0))],H0⟩)
theorem Ky(o:Nat⊕(Unit⊕(Nat×Bool)))(h:k7 a0 r2 d=some o):bO E0 Ys (L1 a0 r2) (xP a0 r2) d o:=
 bZ (ao (.i (r2.length:Int))<|.or (bt<|ao (.n d)<|.ex fun (y5:aB)=>ao (.v (.a (ep y5)))<|.or (Wo<|ao (.n d)<|ao (.v (.a (ep y5)))<|ja<|xN fun j8=>.ex fun (s:Var)=>ao (.v (.a (FU s)))<|rz<|.or (bf<|ao (.i ((d+1:Nat):Int))<|.nil) (bt<|.nil)) (bf<|bf<|bf<|bf<|bf<|bf<|bf<|bf<|bf<|bf<|bf<|bf<|bf<|ao (.i ((d+1:Nat):Int))<|.nil)) (bf<|.nil)) fun L=>ai (aJ aT r2)<|cp h (fun h4 h=>Oz (aA h4)<|ai (rI d)<|cn h fun y5 h6 h=>ai (kS aT h6 (dj _))<|cg<|cg<|ai tt<|cG h (fun h7 h=>Cy h7<|gT<|Cy h7<|ai tt<|ai (g1 h7)<|ai (rI d)<|ai (kS aT h6 (dj _))<|ai tt<|Cy h7<|ai tt<|ai (g1 h7)<|mZ h fun j8 h9 h=>ai h9<|cn h fun s y h=>ai (aM eo y)<|FQ h7<|cG h (fun O h=>ai (an not O)<|aW h fun V h=>ai V<|L h) (fun O h=>ai (an not O)<|L h)) (fun h7 h=>cu h7<|cu h7<|cu h7<|cu h7<|cu h7<|nB h7<|ai ff<|aW h fun w8 h=>ai w8<|L h)) (fun h4 h=>ai (ay h4)<|L h)
abbrev PH(a0:Program)(a1:Stmt)(r:Bool):bH×HP:=(.ret (.b r),H0)
def sN:Option Bool:=
 if (a1.Kind==6)=true then
  (dV a1.Var).bind fun j2=>
  (a0.Vars[j2]?).bind fun y4=>
  some (!y4.Known)
 else
  (pD a1.Expr).bind fun r2=>
  (lp (fun v=>k7 a0 r2 v) 0).bind fun x4=>match x4 with
  | .inl w=>
   some true
  | .inr u=>
   some false
theorem Kz(r:Bool)(h:sN a0 a1=some r):call G Ω0 E0 79 [(.a (av a0)),(.a (aD a1))] H0=some (PH a0 a1 r):=
 bu G79 (bt<|.or (ja<|xN fun j2=>.ex fun (y4:Var)=>ao (.v (.a (FU y4)))<|.nil) (bf<|bt<|.ex fun (r2:(List aB))=>ao (.v (dO r2))<|.or (.ex fun (w:Unit)=>ao (.cD (xP a0 r2 (.inl w)))<|.nil) (.ex fun (u:(Nat×Bool))=>ao (.cD (xP a0 r2 (.inr u)))<|.nil))) fun L=>cg<|ai (rfl:Z0)<|cG h (fun h1 h=>SX h1<|mZ h fun j2 h3 h=>ai h3<|cn h fun y4 h5 h=>ai (aM eo h5)<|L h) (fun h1 h=>oY h1<|bJ h (rL a1.Expr) fun r2 h=>fc h (fC (Ky a0 r2) 0) (fun w h=>L h) (fun u h=>L h))
end
section
variable (a0:(List dw))(a1:(List dw))(c:Nat)
def k9:Option (Nat⊕(Unit⊕(Nat×Bool))):=
 if (c:Int)<(a0.length:Int) then
  (a0[c]?).bind fun y3=>
  (a1[c]?).bind fun y5=>
  if ((y3.At==y5.At)&&((y3.Kind==y5.Kind)&&true))=true then
   if IntKind.i64.wrap ((c:Int)+1)=((c+1:Nat):Int) then
    some (.inl (c+1))
   else none
  else
   some (.inr (.inl ()))
 else
  some (.inr (.inr (c,decide ((c:Int)<(a0.length:Int)))))
abbrev IY(v:Nat):St:=⟨[(0,(dH a0)),(1,(dH a1)),(5,(I (v:Int)))],[],H0⟩
abbrev vm(x:(Unit⊕(Nat×Bool))):aN×St:=match x with | .inl ()=>(.ret,⟨[(4,(.b false))],[],H0⟩) | .inr (z1,z2)=>((.ex 0),⟨[(0,(dH a0)),(1,(dH a1)),(5,(I (z1:Int))),(14,(.b z2))],[],H0⟩)
theorem HL(o:Nat⊕(Unit⊕(Nat×Bool)))(h:k9 a0 a1 c=some o):bO E0 XS (IY a0 a1) (vm a0 a1) c o:=
 bZ (ao (.i (a0.length:Int))<|.or (bt<|ao (.n c)<|.ex fun (y3:dw)=>ao (.v (.a [(I y3.At),(I y3.Kind)]))<|ao (.n c)<|.ex fun (y5:dw)=>ao (.v (.a [(I y5.At),(I y5.Kind)]))<|ao (.b ((y3.At==y5.At)&&((y3.Kind==y5.Kind)&&true)))<|.or (bf<|ao (.i ((c+1:Nat):Int))<|.nil) (bt<|.nil)) (bf<|.nil)) fun L=>ai (aJ jc a0)<|cp h (fun h2 h=>Oz (aA h2)<|ai (rI c)<|cn h fun y3 h4 h=>ai (aM jc h4)<|Cw<|ai (rI c)<|cn h fun y5 h6 h=>ai (aM jc h6)<|cg<|ai (rfl:kr [1,1] [(I y3.At),(I y3.Kind)] [(I y5.At),(I y5.Kind)]=some ((y3.At==y5.At)&&((y3.Kind==y5.Kind)&&true)))<|cG h (fun h7 h=>ai (an not h7)<|aW h fun w8 h=>ai w8<|L h) (fun h7 h=>ai (an not h7)<|L h)) (fun h2 h=>ai (ay h2)<|L h)
abbrev L2(a0:(List dw))(a1:(List dw))(r:Bool):bH×HP:=(.ret (.b r),H0)
def tN:Option Bool:=
 if ((a0.length:Int) !=(a1.length:Int))=true then
  some false
 else
  (lp (fun v=>k9 a0 a1 v) 0).bind fun x2=>match x2 with
  | .inl C=>
   some false
  | .inr B=>
   some true
theorem HM(r:Bool)(h:tN a0 a1=some r):call G Ω0 E0 32 [(.l 133 (a0.map jc)),(.l 133 (a1.map jc))] H0=some (L2 a0 a1 r):=
 bu G32 (ao (.i (a0.length:Int))<|ao (.i (a1.length:Int))<|oN (.or (.ex fun (C:Unit)=>ao (.cD (vm a0 a1 (.inl C)))<|.nil) (.ex fun (B:(Nat×Bool))=>ao (.cD (vm a0 a1 (.inr B)))<|.nil))) fun L=>ai (aJ jc a0)<|ai (aJ jc a1)<|cG h (fun h1 h=>ai h1<|L h) (fun h1 h=>ai h1<|fc h (fC (HL a0 a1) 0) (fun C h=>L h) (fun B h=>L h))
end
end
end Go.Proofs.YtkkkkondjclcnaaGreat.A
