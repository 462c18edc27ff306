/- Functions of the program as plain functions, by program. -/
import Derived.Test.YtkkkkondjclcnaaGreatTypes
import Derived.Test.YtkkkkondjclcnaaGreatLift
import Derived.Test.YtkkkkondjclcnaaGreatRWalk
import Derived.Test.YtkkkkondjclcnaaGreatFR
set_option linter.all false
set_option maxRecDepth 100000
namespace Go.Proofs.YtkkkkondjclcnaaGreat.A
open Go
noncomputable section
variable [Lp]
section
variable (a0:aj)(a2:Int)(v0_8:Nat)(v1_7:(List Bool))(v1_9:Nat)(v0_7:(List Bool))(a1:Int)
def my(a2:Int)(v0_8:Nat)(v1_7:(List Bool))(v1_9:Nat):Option (((List Bool)×Nat)⊕((List Bool)×Nat×Bool)):=
 if (v1_9:Int)<(a0.Grants.length:Int) then
  (a0.Grants[v1_9]?).bind fun (y10:cG)=>
  (ed y10.Who).bind fun (j12:Nat)=>
  (v1_7[j12]?).bind fun (y14:Bool)=>
  if y14=true then
   (ed y10.For).bind fun (j17:Nat)=>
   (v1_7[j17]?).bind fun (y19:Bool)=>
   if IntKind.i64.wrap ((v1_9:Int)+1)=((v1_9+1:Nat):Int) then
    some (.inl (v1_7.set j17 true,v1_9+1))
   else none
  else
   if IntKind.i64.wrap ((v1_9:Int)+1)=((v1_9+1:Nat):Int) then
    some (.inl (v1_7,v1_9+1))
   else none
 else
  some (.inr (v1_7,v1_9,decide ((v1_9:Int)<(a0.Grants.length:Int))))
abbrev Kt(v:((List Bool)×Nat)):St:=⟨[(2,(I a2)),(3,(.p ⟨0,3⟩ 0)),(7,(.o 4 (v.1.map AV.b))),(8,(I (v0_8:Int))),(9,(I (v.2:Int)))],[(3,[(I a0.Many),(.l 166 (a0.Grants.map aG))])],H0⟩
abbrev B4(x:((List Bool)×Nat×Bool)):aI×St:=((.ex 2),⟨[(2,(I a2)),(3,(.p ⟨0,3⟩ 0)),(7,(.o 4 (x.1.map AV.b))),(8,(I (v0_8:Int))),(9,(I (x.2.1:Int))),(26,(.b x.2.2))],[(3,[(I a0.Many),(.l 166 (a0.Grants.map aG))])],H0⟩)
theorem Jf(o:((List Bool)×Nat)⊕((List Bool)×Nat×Bool))(h:my a0 a2 v0_8 v1_7 v1_9=some o):bz E0 QC (Kt a0 a2 v0_8) (B4 a0 a2 v0_8) (v1_7,v1_9) o:=
 bG (bt<|ao (.i (a0.Grants.length:Int))<|.or (en<|ao (.n v1_9)<|.ex fun (y10:cG)=>ao (.v (.a [(I y10.Who),(I y10.For)]))<|xN fun j12=>xB fun y14=>ao (.v (.b y14))<|.or (en<|ao (.n v1_9)<|ao (.v (.a [(I y10.Who),(I y10.For)]))<|xN fun j17=>xB fun y19=>ao (.v (.b y19))<|ao (.l ((v1_7.set j17 true).map AV.b))<|ao (.i ((v1_9+1:Nat):Int))<|.nil) (bf<|ao (.i ((v1_9+1:Nat):Int))<|.nil)) (bf<|.nil)) fun L=>ai (rfl:Z0)<|ai (aC aG a0.Grants)<|bP h (fun h9 h=>kP (av h9)<|ai (rI v1_9)<|bR h fun y10 h11 h=>ai (aD aG h11)<|kC h fun j12 h13 h=>ai h13<|bR h fun y14 h15 h=>ai (aD AV.b h15)<|ai (aD AV.b h15)<|bI h (fun h16 h=>kP h16<|ai (rI v1_9)<|ai (aD aG h11)<|kC h fun j17 h18 h=>ai h18<|bR h fun y19 h20 h=>ai (aD AV.b h20)<|ai ff<|ai (aD AV.b h20)<|ai (map_set .. : (v1_7.map AV.b).set j17 (.b true)=(v1_7.set j17 true).map AV.b)<|aJ h fun w21 h=>ai w21<|L h) (fun h16 h=>ai h16<|aJ h fun w17 h=>ai w17<|L h)) (fun h9 h=>ai (aw h9)<|L h)
def mz(v0_8:Nat):Option (((List Bool)×Nat)⊕((List Bool)×Nat×Bool)):=
 if (v0_8:Int)<a0.Many then
  (lp (fun v=>my a0 a2 v0_8 v.1 v.2) (v0_7,0)).bind fun (x9:((List Bool)×Nat×Bool))=>
  if IntKind.i64.wrap ((v0_8:Int)+1)=((v0_8+1:Nat):Int) then
   some (.inl (x9.1,v0_8+1))
  else none
 else
  some (.inr (v0_7,v0_8,decide ((v0_8:Int)<a0.Many)))
abbrev Ku(v:((List Bool)×Nat)):St:=⟨[(2,(I a2)),(3,(.p ⟨0,3⟩ 0)),(7,(.o 4 (v.1.map AV.b))),(8,(I (v.2:Int)))],[(3,[(I a0.Many),(.l 166 (a0.Grants.map aG))])],H0⟩
abbrev B5(x:((List Bool)×Nat×Bool)):aI×St:=((.ex 0),⟨[(2,(I a2)),(3,(.p ⟨0,3⟩ 0)),(7,(.o 4 (x.1.map AV.b))),(8,(I (x.2.1:Int))),(19,(.b x.2.2))],[(3,[(I a0.Many),(.l 166 (a0.Grants.map aG))])],H0⟩)
theorem Jg(v0_8:Nat)(o:((List Bool)×Nat)⊕((List Bool)×Nat×Bool))(h:mz a0 a2 v0_7 v0_8=some o):bz E0 QD (Ku a0 a2) (B5 a0 a2) (v0_7,v0_8) o:=
 bG (bt<|.or (bt<|.ex fun (x9:((List Bool)×Nat×Bool))=>ao (.bX (B4 a0 a2 v0_8 x9))<|ao (.i ((v0_8+1:Nat):Int))<|.nil) (bf<|.nil)) fun L=>ai (rfl:Z0)<|bP h (fun h8 h=>ai (av h8)<|aW h (dZ (fun v=>Jf a0 a2 v0_8 v.1 v.2) (v0_7,0)) fun x9 h=>aJ h fun w11 h=>ai w11<|L h) (fun h8 h=>ai (aw h8)<|L h)
abbrev NH(a0:aj)(a1:Int)(a2:Int)(r:Bool):bm×HP:=(.ret (.b r),H0)
def pc(a2:Int):Option Bool:=
 (ed a0.Many).bind fun (j1:Nat)=>
 if j1≤1000000000 then
  (ed a1).bind fun (j4:Nat)=>
  ((List.replicate j1 false)[j4]?).bind fun (y6:Bool)=>
  (lp (fun v=>mz a0 a2 v.1 v.2) (((List.replicate j1 false).set j4 true),0)).bind fun (x8:((List Bool)×Nat×Bool))=>
  (ed a2).bind fun (j10:Nat)=>
  (x8.1[j10]?).bind fun (y12:Bool)=>
  some y12
 else none
theorem A1(a2:Int)(r:Bool)(h:pc a0 a1 a2=some r):call G Ω0 E0 125 [(.a [(I a0.Many),(.l 166 (a0.Grants.map aG))]),(I a1),(I a2)] H0=some (NH a0 a1 a2 r):=
 aX ajA (bt<|xN fun j1=>ao (.l ((List.replicate j1 false).map AV.b))<|xN fun j4=>xB fun y6=>ao (.v (.b y6))<|ao (.l (((List.replicate j1 false).set j4 true).map AV.b))<|.ex fun (x8:((List Bool)×Nat×Bool))=>ao (.bX (B5 a0 a2 x8))<|xN fun j10=>xB fun y12=>ao (.v (.b y12))<|.nil) fun L=>su<|kC h fun j1 h2 h=>ai h2<|aJ h fun h3 h=>ai ((KV h3 (by decide)):j1*1≤140737488355328)<|ai ((KY h3):j1≤maxLen)<|ai ((yO ..).symm:List.replicate j1 (.b false)=(List.replicate j1 false).map AV.b)<|kC h fun j4 h5 h=>ai h5<|bR h fun y6 h7 h=>ai (aD AV.b h7)<|ai ff<|ai (aD AV.b h7)<|ai (map_set .. : ((List.replicate j1 false).map AV.b).set j4 (.b true)=((List.replicate j1 false).set j4 true).map AV.b)<|aW h (dZ (fun v=>Jg a0 a2 v.1 v.2) (((List.replicate j1 false).set j4 true),0)) fun x8 h=>kC h fun j10 h11 h=>ai h11<|bR h fun y12 h13 h=>ai (aD AV.b h13)<|ai (aD AV.b h13)<|L h
end
section
variable (a0:aj)(a1:Int)(a2:(List bD))(v0_7:Nat)(v1_8:Bool)(v1_9:Nat)
def tP:Option ((Bool×Nat)⊕(Bool×Nat×Bool)):=
 (a2[v0_7]?).bind fun (y6:bD)=>
 if (v1_9:Int)<(y6.Names.length:Int) then
  if v1_8=true then
   if IntKind.i64.wrap ((v1_9:Int)+1)=((v1_9+1:Nat):Int) then
    some (.inl (true,v1_9+1))
   else none
  else
   (y6.Names[v1_9]?).bind fun (y10:Int)=>
   (pc a0 a1 y10).bind fun (r12:Bool)=>
   if IntKind.i64.wrap ((v1_9:Int)+1)=((v1_9+1:Nat):Int) then
    some (.inl (r12,v1_9+1))
   else none
 else
  some (.inr (v1_8,v1_9,decide ((v1_9:Int)<(y6.Names.length:Int))))
abbrev RR(v:(Bool×Nat)):St:=⟨[(1,(I a1)),(2,(.l 138 (a2.map aE))),(3,(.p ⟨0,3⟩ 0)),(7,(I (v0_7:Int))),(8,(.b v.1)),(9,(I (v.2:Int)))],[(3,[(I a0.Many),(.l 166 (a0.Grants.map aG))])],H0⟩
abbrev JZ(x:(Bool×Nat×Bool)):aI×St:=((.ex 2),⟨[(1,(I a1)),(2,(.l 138 (a2.map aE))),(3,(.p ⟨0,3⟩ 0)),(7,(I (v0_7:Int))),(8,(.b x.1)),(9,(I (x.2.1:Int))),(31,(.b x.2.2))],[(3,[(I a0.Many),(.l 166 (a0.Grants.map aG))])],H0⟩)
theorem PV(o:(Bool×Nat)⊕(Bool×Nat×Bool))(h:tP a0 a1 a2 v0_7 v1_8 v1_9=some o):bz E0 Qz (RR a0 a1 a2 v0_7) (JZ a0 a1 a2 v0_7) (v1_8,v1_9) o:=
 bG (ao (.n v0_7)<|.ex fun (y6:bD)=>ao (.v (.a [(I y6.Owner),(.l 3 (y6.Names.map (I)))]))<|ao (.i (y6.Names.length:Int))<|.or (bt<|.or (bf<|bf<|bf<|bf<|bf<|bf<|bf<|bf<|bf<|bf<|bf<|bt<|ao (.i ((v1_9+1:Nat):Int))<|.nil) (bt<|bt<|bt<|bt<|bt<|bt<|ao (.n v0_7)<|ao (.v (.a [(I y6.Owner),(.l 3 (y6.Names.map (I)))]))<|qx<|ao (.n v1_9)<|xI fun y10=>en<|xB fun r12=>bf<|ao (.i ((v1_9+1:Nat):Int))<|.nil)) (bf<|.nil)) fun L=>ai (rI v0_7)<|bR h fun y6 h7 h=>ai (aD aE h7)<|ai (aC (I) y6.Names)<|bP h (fun h8 h=>Lv (av h8)<|bI h (fun h9 h=>bY h9<|bY h9<|bY h9<|bY h9<|bY h9<|jy h9<|aJ h fun w10 h=>ai w10<|L h) (fun h9 h=>ai (g0 h9)<|fB<|CZ h9<|ai tt<|CZ h9<|ai (rI v0_7)<|ai (aD aE h7)<|ai tt<|CZ h9<|ai tt<|CZ h9<|ai (rI v1_9)<|bR h fun y10 h11 h=>ai (aD (I) h11)<|ai tt<|CZ h9<|aW h (A1 a0 a1 y10) fun r12 h=>ai h9<|aJ h fun w14 h=>ai w14<|L h)) (fun h8 h=>ai (aw h8)<|L h)
def qR:Option (Nat⊕(Unit⊕(Nat×Bool))):=
 if (v0_7:Int)<(a2.length:Int) then
  (a2[v0_7]?).bind fun (y2:bD)=>
  (pc a0 a1 y2.Owner).bind fun (r4:Bool)=>
  (lp (fun v=>tP a0 a1 a2 v0_7 v.1 v.2) (r4,0)).bind fun (x6:(Bool×Nat×Bool))=>
  if x6.1=true then
   if IntKind.i64.wrap ((v0_7:Int)+1)=((v0_7+1:Nat):Int) then
    some (.inl (v0_7+1))
   else none
  else
   some (.inr (.inl ()))
 else
  some (.inr (.inr (v0_7,decide ((v0_7:Int)<(a2.length:Int)))))
abbrev RS(v:Nat):St:=⟨[(1,(I a1)),(2,(.l 138 (a2.map aE))),(3,(.p ⟨0,3⟩ 0)),(7,(I (v:Int)))],[(3,[(I a0.Many),(.l 166 (a0.Grants.map aG))])],H0⟩
abbrev DJ(x:(Unit⊕(Nat×Bool))):aI×St:=match x with | .inl ()=>(.ret,⟨[(6,(.b false))],[],H0⟩) | .inr (z1,z2)=>((.ex 0),⟨[(1,(I a1)),(2,(.l 138 (a2.map aE))),(3,(.p ⟨0,3⟩ 0)),(7,(I (z1:Int))),(13,(.b z2))],[(3,[(I a0.Many),(.l 166 (a0.Grants.map aG))])],H0⟩)
theorem PW(o:Nat⊕(Unit⊕(Nat×Bool)))(h:qR a0 a1 a2 v0_7=some o):bz E0 QA (RS a0 a1 a2) (DJ a0 a1 a2) v0_7 o:=
 bG (ao (.i (a2.length:Int))<|.or (en<|ao (.n v0_7)<|.ex fun (y2:bD)=>ao (.v (.a [(I y2.Owner),(.l 3 (y2.Names.map (I)))]))<|xB fun r4=>.ex fun (x6:(Bool×Nat×Bool))=>ao (.bX (JZ a0 a1 a2 v0_7 x6))<|.or (bf<|ao (.i ((v0_7+1:Nat):Int))<|.nil) (bt<|.nil)) (bf<|.nil)) fun L=>ai (aC aE a2)<|bP h (fun h1 h=>ai (av h1)<|ai tt<|ai (rfl:Z0)<|bq<|bq<|ai (rI v0_7)<|bR h fun y2 h3 h=>ai (aD aE h3)<|zU<|aW h (A1 a0 a1 y2.Owner) fun r4 h=>aW h (dZ (fun v=>PV a0 a1 a2 v0_7 v.1 v.2) (r4,0)) fun x6 h=>bI h (fun h8 h=>ai (an not h8)<|aJ h fun w9 h=>ai w9<|L h) (fun h8 h=>ai (an not h8)<|L h)) (fun h1 h=>ai (aw h1)<|L h)
abbrev WV(a0:aj)(a1:Int)(a2:(List bD))(r:Bool):bm×HP:=(.ret (.b r),H0)
def A2:Option Bool:=
 (lp (fun v=>qR a0 a1 a2 v) 0).bind fun (x1:(Unit⊕(Nat×Bool)))=>match x1 with
 | .inl ya_2=>
  some false
 | .inr yb_2=>
  some true
theorem HG(r:Bool)(h:A2 a0 a1 a2=some r):call G Ω0 E0 116 [(.a [(I a0.Many),(.l 166 (a0.Grants.map aG))]),(I a1),(.l 138 (a2.map aE))] H0=some (WV a0 a1 a2 r):=
 aX aju (.or (.ex fun (ya_2:Unit)=>ao (.bX (DJ a0 a1 a2 (.inl ya_2)))<|.nil) (.ex fun (yb_2:(Nat×Bool))=>ao (.bX (DJ a0 a1 a2 (.inr yb_2)))<|.nil)) fun L=>ai tt<|dy h (dZ (PW a0 a1 a2) 0) (fun ya_2 h=>L h) (fun yb_2 h=>L h)
end
section
variable (a0:aj)(a1:Label)(v0_6:Nat)(v0_5_0:(List Bool))(v0_5_1:(List Bool))
def mA:Option ((Nat×(List Bool)×(List Bool))⊕(Nat×Bool×(List Bool)×(List Bool))):=
 if (v0_6:Int)<a0.Many then
  (A2 a0 (v0_6:Int) a1.Read).bind fun (r2:Bool)=>
  if v0_5_0.length + [r2].length≤1000000000 then
   (A2 a0 (v0_6:Int) a1.Write).bind fun (r5:Bool)=>
   if v0_5_1.length + [r5].length≤1000000000 then
    if IntKind.i64.wrap ((v0_6:Int)+1)=((v0_6+1:Nat):Int) then
     some (.inl (v0_6+1,v0_5_0++[r2],v0_5_1++[r5]))
    else none
   else none
  else none
 else
  some (.inr (v0_6,decide ((v0_6:Int)<a0.Many),v0_5_0,v0_5_1))
abbrev Kv(v:(Nat×(List Bool)×(List Bool))):St:=⟨[(2,(.p ⟨0,2⟩ 0)),(3,(.p ⟨0,3⟩ 0)),(4,(.p ⟨0,4⟩ 0)),(5,(.p ⟨0,5⟩ 0)),(6,(I (v.1:Int)))],[(2,[(I a0.Many),(.l 166 (a0.Grants.map aG))]),(3,[(.l 138 (a1.Read.map aE)),(.l 138 (a1.Write.map aE))]),(4,[(.l 4 (([]:List Bool).map AV.b)),(.l 4 (([]:List Bool).map AV.b))]),(5,[(.o 4 (v.2.1.map AV.b)),(.o 4 (v.2.2.map AV.b))])],H0⟩
abbrev B6(x:(Nat×Bool×(List Bool)×(List Bool))):aI×St:=((.ex 0),⟨[(2,(.p ⟨0,2⟩ 0)),(3,(.p ⟨0,3⟩ 0)),(4,(.p ⟨0,4⟩ 0)),(5,(.p ⟨0,5⟩ 0)),(6,(I (x.1:Int))),(10,(.b x.2.1))],[(2,[(I a0.Many),(.l 166 (a0.Grants.map aG))]),(3,[(.l 138 (a1.Read.map aE)),(.l 138 (a1.Write.map aE))]),(4,[(.l 4 (([]:List Bool).map AV.b)),(.l 4 (([]:List Bool).map AV.b))]),(5,[(.o 4 (x.2.2.1.map AV.b)),(.o 4 (x.2.2.2.map AV.b))])],H0⟩)
theorem Jh(o:(Nat×(List Bool)×(List Bool))⊕(Nat×Bool×(List Bool)×(List Bool)))(h:mA a0 a1 v0_6 v0_5_0 v0_5_1=some o):bz E0 Vh (Kv a0 a1) (B6 a0 a1) (v0_6,v0_5_0,v0_5_1) o:=
 bG (bt<|.or (qx<|xB fun r2=>ao (.l ([r2].map AV.b))<|iu<|ao (.l ((v0_5_0++[r2]).map AV.b))<|uF<|xB fun r5=>ao (.l ([r5].map AV.b))<|iu<|ao (.l ((v0_5_1++[r5]).map AV.b))<|en<|ao (.i ((v0_6+1:Nat):Int))<|.nil) (bf<|.nil)) fun L=>ai (rfl:Z0)<|bP h (fun h1 h=>ai (av h1)<|bq<|fB<|ai (rfl:Z0)<|bq<|ai tt<|fB<|aW h (HG a0 (v0_6:Int) a1.Read) fun r2 h=>ai tt<|ai (rfl:[(.b r2)]=[r2].map AV.b)<|ai tt<|ai ff<|kD<|ai (rfl:Z0)<|aJ h fun h4 h=>ai ((ir AV.b (n:=1) (fun _=>rfl) [r2]):([r2].map AV.b).all (fun e=>e.nc==1)=true)<|ai ((la h4 (by decide)):((v0_5_0.map AV.b).length+([r2].map AV.b).length)*1≤140737488355328)<|ai ((lf h4):(v0_5_0.map AV.b).length+([r2].map AV.b).length≤maxLen)<|ai (cI.symm:v0_5_0.map AV.b++[r2].map AV.b=(v0_5_0++[r2]).map AV.b)<|ai ff<|kD<|bq<|fB<|ai (rfl:Z0)<|bq<|ai tt<|fB<|aW h (HG a0 (v0_6:Int) a1.Write) fun r5 h=>ai tt<|ai (rfl:[(.b r5)]=[r5].map AV.b)<|ai tt<|ai ff<|kD<|ai (rfl:Z0)<|aJ h fun h7 h=>ai ((ir AV.b (n:=1) (fun _=>rfl) [r5]):([r5].map AV.b).all (fun e=>e.nc==1)=true)<|ai ((la h7 (by decide)):((v0_5_1.map AV.b).length+([r5].map AV.b).length)*1≤140737488355328)<|ai ((lf h7):(v0_5_1.map AV.b).length+([r5].map AV.b).length≤maxLen)<|ai (cI.symm:v0_5_1.map AV.b++[r5].map AV.b=(v0_5_1++[r5]).map AV.b)<|ai ff<|kD<|aJ h fun w8 h=>ai w8<|L h) (fun h1 h=>ai (aw h1)<|L h)
abbrev NI(a0:aj)(a1:Label)(r:Level):bm×HP:=(.ret (.a [(.l 4 (r.Readers.map AV.b)),(.l 4 (r.Writers.map AV.b))]),H0)
def jP:Option Level:=
 (lp (fun v=>mA a0 a1 v.1 v.2.1 v.2.2) (0,([]:List Bool),([]:List Bool))).bind fun (x1:(Nat×Bool×(List Bool)×(List Bool)))=>
 some (⟨x1.2.2.1,x1.2.2.2⟩:Level)
theorem rO(r:Level)(h:jP a0 a1=some r):call G Ω0 E0 55 [(.a [(I a0.Many),(.l 166 (a0.Grants.map aG))]),(.a [(.l 138 (a1.Read.map aE)),(.l 138 (a1.Write.map aE))])] H0=some (NI a0 a1 r):=
 aX G55 (qx<|.ex fun (x1:(Nat×Bool×(List Bool)×(List Bool)))=>ao (.bX (B6 a0 a1 x1))<|Tx<|.nil) fun L=>bq<|bq<|ai ff<|kD<|ai ff<|kD<|aW h (dZ (fun v=>Jh a0 a1 v.1 v.2.1 v.2.2) (0,([]:List Bool),([]:List Bool))) fun x1 h=>ai ff<|kD<|ai ff<|kD<|ai (rfl:Z0)<|ai ff<|fB<|kD<|L h
end
end
end Go.Proofs.YtkkkkondjclcnaaGreat.A
