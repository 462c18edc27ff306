/- Functions of the program as plain functions, by program. -/
import Derived.Test.YtkkkkondjclcnaaGreatTypes
import Derived.Test.YtkkkkondjclcnaaGreatLift
import Derived.Test.YtkkkkondjclcnaaGreatFA
set_option linter.all false
set_option maxRecDepth 100000
namespace Go.Proofs.YtkkkkondjclcnaaGreat.A
open Go
noncomputable section
variable [Lp]
section
variable (a0:aj)(a1:Int)
abbrev Nr(a0:aj)(a1:Int)(r:Bool):bm×HP:=(.ret (.b r),H0)
def jN:Option Bool:=
 if 0≤a1 then
  some (decide (a1<a0.Many))
 else
  some false
theorem lG(r:Bool)(h:jN a0 a1=some r):call G Ω0 E0 119 [(.a [(I a0.Many),(.l 166 (a0.Grants.map aG))]),(I a1)] H0=some (Nr a0 a1 r):=
 aX ajx (.or (bt<|bt<|bt<|bt<|bt<|bt<|.nil) (Tu<|.nil)) fun L=>ai tt<|bP h (fun h1 h=>dt (av h1)<|ai (g1 (av h1))<|ai (rfl:Z0)<|rZ (av h1)<|L h) (fun h1 h=>dt (aw h1)<|dt (aw h1)<|ai (aw h1)<|L h)
end
section
variable (a0:cG)(a1:aj)
abbrev Fx(a0:cG)(a1:aj)(r:Bool):bm×HP:=(.ret (.b r),H0)
def lZ:Option Bool:=
 (jN a1 a0.Who).bind fun (r1:Bool)=>
 if r1=true then
  (jN a1 a0.For).bind fun (r4:Bool)=>
  some (!r4)
 else
  some true
theorem B9(r:Bool)(h:lZ a0 a1=some r):call G Ω0 E0 153 [(.a [(I a0.Who),(I a0.For)]),(.e (.a [(I a1.Many),(.l 166 (a1.Grants.map aG))]) 0)] H0=some (Fx a0 a1 r):=
 aX ajQ (bt<|xB fun r1=>.or (uF<|xB fun r4=>wW<|.nil) (Tv<|.nil)) fun L=>su<|aW h (lG a1 a0.Who) fun r1 h=>bI h (fun h3 h=>bY (an not h3)<|ai (g0 (an not h3))<|ai (rfl:Z0)<|ai (g0 (an not h3))<|aW h (lG a1 a0.For) fun r4 h=>jy (an not h3)<|L h) (fun h3 h=>Tq (an not h3)<|L h)
end
section
variable (a0:(List cG))(a1:aj)(v0_8:Nat)
def jV:Option (Nat⊕(Nat⊕(Nat×Bool))):=
 if (v0_8:Int)<(a0.length:Int) then
  (a0[v0_8]?).bind fun (y2:cG)=>
  (lZ y2 a1).bind fun (r4:Bool)=>
  if r4=true then
   some (.inr (.inl v0_8))
  else
   if IntKind.i64.wrap ((v0_8:Int)+1)=((v0_8+1:Nat):Int) then
    some (.inl (v0_8+1))
   else none
 else
  some (.inr (.inr (v0_8,decide ((v0_8:Int)<(a0.length:Int)))))
abbrev qD(v:Nat):St:=⟨[(0,(.l 166 (a0.map aG))),(1,(.f 153 [(.e (.a [(I a1.Many),(.l 166 (a1.Grants.map aG))]) 0)])),(7,(I (a0.length:Int))),(8,(I (v:Int)))],[],H0⟩
abbrev fE(x:(Nat⊕(Nat×Bool))):aI×St:=match x with | .inl z1=>(.ret,⟨[(4,(I (z1:Int)))],[],H0⟩) | .inr (z1,z2)=>((.ex 0),⟨[(0,(.l 166 (a0.map aG))),(1,(.f 153 [(.e (.a [(I a1.Many),(.l 166 (a1.Grants.map aG))]) 0)])),(7,(I (a0.length:Int))),(8,(I (z1:Int))),(9,(.b z2))],[],H0⟩)
theorem pS(o:Nat⊕(Nat⊕(Nat×Bool)))(h:jV a0 a1 v0_8=some o):bz E0 QR (qD a0 a1) (fE a0 a1) v0_8 o:=
 bG (.or (bt<|ao (.n v0_8)<|.ex fun (y2:cG)=>ao (.v (.a [(I y2.Who),(I y2.For)]))<|xB fun r4=>oN (ao (.i ((v0_8+1:Nat):Int))<|.nil)) (bf<|.nil)) fun L=>bP h (fun h1 h=>ai (av h1)<|ai (rI v0_8)<|bR h fun y2 h3 h=>ai (aD aG h3)<|aW h (B9 y2 a1) fun r4 h=>bI h (fun h6 h=>ai h6<|L h) (fun h6 h=>ai h6<|aJ h fun w7 h=>ai w7<|L h)) (fun h1 h=>ai (aw h1)<|L h)
abbrev sa(a0:(List cG))(a1:aj)(r:Int):bm×HP:=(.ret (I r),H0)
def kR:Option Int:=
 (lp (fun v=>jV a0 a1 v) 0).bind fun (x1:(Nat⊕(Nat×Bool)))=>match x1 with
 | .inl ya_2=>
  some (ya_2:Int)
 | .inr yb_2=>
  some (-1)
theorem pT(r:Int)(h:kR a0 a1=some r):call G Ω0 E0 166 [(.l 166 (a0.map aG)),(.f 153 [(.e (.a [(I a1.Many),(.l 166 (a1.Grants.map aG))]) 0)])] H0=some (sa a0 a1 r):=
 aX ajW (ao (.i (a0.length:Int))<|.or (.ex fun (ya_2:Nat)=>ao (.bX (fE a0 a1 (.inl ya_2)))<|.nil) (.ex fun (yb_2:(Nat×Bool))=>ao (.bX (fE a0 a1 (.inr yb_2)))<|.nil)) fun L=>ai (aC aG a0)<|dy h (dZ (pS a0 a1) 0) (fun ya_2 h=>L h) (fun yb_2 h=>L h)
abbrev pU(a0:(List cG))(a1:aj)(r:Bool):bm×HP:=(.ret (.b r),H0)
def fj:Option Bool:=
 (kR a0 a1).bind fun (r1:Int)=>
 some (decide (0≤r1))
theorem oH(r:Bool)(h:fj a0 a1=some r):call G Ω0 E0 152 [(.l 166 (a0.map aG)),(.f 153 [(.e (.a [(I a1.Many),(.l 166 (a1.Grants.map aG))]) 0)])] H0=some (pU a0 a1 r):=
 aX ajP (xI fun r1=>.nil) fun L=>aW h (pT a0 a1) fun r1 h=>L h
end
section
variable (a0:aj)
abbrev IH(a0:aj)(r:Int):bm×HP:=(.ret (I r),H0)
def rh:Option Int:=
 if a0.Many<1 then
  some 3
 else
  if 6<a0.Many then
   some 3
  else
   if 20<(a0.Grants.length:Int) then
    some 2
   else
    (fj a0.Grants a0).bind fun (r4:Bool)=>
    if r4=true then
     some 5
    else
     some 0
theorem Ew(r:Int)(h:rh a0=some r):call G Ω0 E0 128 [(.a [(I a0.Many),(.l 166 (a0.Grants.map aG))])] H0=some (IH a0 r):=
 aX ajD (bt<|.or (Ts<|.nil) (Tt<|oN (bt<|ao (.i (a0.Grants.length:Int))<|oN (xB fun r4=>oN (.nil))))) fun L=>su<|bP h (fun h1 h=>bY (av h1)<|jy (av h1)<|ai tt<|L h) (fun h1 h=>ev8 (aw h1)<|bP h (fun h2 h=>ai (av h2)<|L h) (fun h2 h=>kP (aw h2)<|ai (aC aG a0.Grants)<|bP h (fun h3 h=>ai (av h3)<|L h) (fun h3 h=>kP (aw h3)<|aW h (oH a0.Grants a0) fun r4 h=>bI h (fun h6 h=>ai h6<|L h) (fun h6 h=>ai h6<|L h))))
end
section
variable (a0:Int)(a1:Program)
abbrev II(a0:Int)(a1:Program)(r:Bool):bm×HP:=(.ret (.b r),H0)
def ri:Option Bool:=
 (jN a1.aj a0).bind fun (r1:Bool)=>
 some (!r1)
theorem Ex(r:Bool)(h:ri a0 a1=some r):call G Ω0 E0 132 [(I a0),(.e (.a (ar a1)) 0)] H0=some (II a0 a1 r):=
 aX ajF (xB fun r1=>.nil) fun L=>aW h (lG a1.aj a0) fun r1 h=>L h
end
section
variable (a0:(List Int))(a1:Program)(v0_8:Nat)
def kS:Option (Nat⊕(Nat⊕(Nat×Bool))):=
 if (v0_8:Int)<(a0.length:Int) then
  (a0[v0_8]?).bind fun (y2:Int)=>
  (ri y2 a1).bind fun (r4:Bool)=>
  if r4=true then
   some (.inr (.inl v0_8))
  else
   if IntKind.i64.wrap ((v0_8:Int)+1)=((v0_8+1:Nat):Int) then
    some (.inl (v0_8+1))
   else none
 else
  some (.inr (.inr (v0_8,decide ((v0_8:Int)<(a0.length:Int)))))
abbrev sb(v:Nat):St:=⟨[(0,(.l 3 (a0.map (I)))),(1,(.f 132 [(.e (.a (ar a1)) 0)])),(7,(I (a0.length:Int))),(8,(I (v:Int)))],[],H0⟩
abbrev gG(x:(Nat⊕(Nat×Bool))):aI×St:=match x with | .inl z1=>(.ret,⟨[(4,(I (z1:Int)))],[],H0⟩) | .inr (z1,z2)=>((.ex 0),⟨[(0,(.l 3 (a0.map (I)))),(1,(.f 132 [(.e (.a (ar a1)) 0)])),(7,(I (a0.length:Int))),(8,(I (z1:Int))),(9,(.b z2))],[],H0⟩)
theorem rj(o:Nat⊕(Nat⊕(Nat×Bool)))(h:kS a0 a1 v0_8=some o):bz E0 GF (sb a0 a1) (gG a0 a1) v0_8 o:=
 bG (.or (bt<|ao (.n v0_8)<|xI fun y2=>xB fun r4=>oN (ao (.i ((v0_8+1:Nat):Int))<|.nil)) (bf<|.nil)) fun L=>bP h (fun h1 h=>ai (av h1)<|ai (rI v0_8)<|bR h fun y2 h3 h=>ai (aD (I) h3)<|aW h (Ex y2 a1) fun r4 h=>bI h (fun h6 h=>ai h6<|L h) (fun h6 h=>ai h6<|aJ h fun w7 h=>ai w7<|L h)) (fun h1 h=>ai (aw h1)<|L h)
abbrev s8(a0:(List Int))(a1:Program)(r:Int):bm×HP:=(.ret (I r),H0)
def l6:Option Int:=
 (lp (fun v=>kS a0 a1 v) 0).bind fun (x1:(Nat⊕(Nat×Bool)))=>match x1 with
 | .inl ya_2=>
  some (ya_2:Int)
 | .inr yb_2=>
  some (-1)
theorem rk(r:Int)(h:l6 a0 a1=some r):call G Ω0 E0 143 [(.l 3 (a0.map (I))),(.f 132 [(.e (.a (ar a1)) 0)])] H0=some (s8 a0 a1 r):=
 aX Tf (ao (.i (a0.length:Int))<|.or (.ex fun (ya_2:Nat)=>ao (.bX (gG a0 a1 (.inl ya_2)))<|.nil) (.ex fun (yb_2:(Nat×Bool))=>ao (.bX (gG a0 a1 (.inr yb_2)))<|.nil)) fun L=>ai (aC (I) a0)<|dy h (dZ (rj a0 a1) 0) (fun ya_2 h=>L h) (fun yb_2 h=>L h)
abbrev rl(a0:(List Int))(a1:Program)(r:Bool):bm×HP:=(.ret (.b r),H0)
def fV:Option Bool:=
 (l6 a0 a1).bind fun (r1:Int)=>
 some (decide (0≤r1))
theorem pd(r:Bool)(h:fV a0 a1=some r):call G Ω0 E0 105 [(.l 3 (a0.map (I))),(.f 132 [(.e (.a (ar a1)) 0)])] H0=some (rl a0 a1 r):=
 aX Te (xI fun r1=>.nil) fun L=>aW h (rk a0 a1) fun r1 h=>L h
end
section
variable (a0:(List (List Label)))(v0_3:Int)(v0_11:Nat)(v1_6:(List Label))(v1_27:Nat)
def dJ:Option ((Int×Nat)⊕(Int×Nat×Bool)):=
 if (v0_11:Int)<(a0.length:Int) then
  (a0[v0_11]?).bind fun (y2:(List Label))=>
  if IntKind.i64.wrap (v0_3+(y2.length:Int))=v0_3+(y2.length:Int) then
   if (v0_3+(y2.length:Int))<0 then
    none
   else
    if IntKind.i64.wrap ((v0_11:Int)+1)=((v0_11+1:Nat):Int) then
     some (.inl (v0_3+(y2.length:Int),v0_11+1))
    else none
  else none
 else
  some (.inr (v0_3,v0_11,decide ((v0_11:Int)<(a0.length:Int))))
abbrev wa(v:(Int×Nat)):St:=⟨[(0,(.l 26 (a0.map (bc 81 ay)))),(3,(I v.1)),(9,(.l 26 (a0.map (bc 81 ay)))),(10,(I (a0.length:Int))),(11,(I (v.2:Int)))],[],H0⟩
abbrev oi(x:(Int×Nat×Bool)):aI×St:=((.ex 0),⟨[(0,(.l 26 (a0.map (bc 81 ay)))),(3,(I x.1)),(9,(.l 26 (a0.map (bc 81 ay)))),(10,(I (a0.length:Int))),(11,(I (x.2.1:Int))),(12,(.b x.2.2))],[],H0⟩)
theorem u6(o:(Int×Nat)⊕(Int×Nat×Bool))(h:dJ a0 v0_3 v0_11=some o):bz E0 QI (wa a0) (oi a0) (v0_3,v0_11) o:=
 bG (.or (bt<|ao (.n v0_11)<|.ex fun (y2:(List Label))=>ao (.v (.l 81 (y2.map ay)))<|ao (.i (y2.length:Int))<|ao (.i (v0_3+(y2.length:Int)))<|bf<|ao (.i ((v0_11+1:Nat):Int))<|.nil) (bf<|.nil)) fun L=>bP h (fun h1 h=>ai (av h1)<|ai (rI v0_11)<|bR h fun y2 h3 h=>ai (aD (bc 81 ay) h3)<|ai (aC ay y2)<|aJ h fun w4 h=>ai w4<|Tn h (fun _ h=>ahr h) (fun h5 h=>ai (aw h5)<|aJ h fun w6 h=>ai w6<|L h)) (fun h1 h=>ai (aw h1)<|L h)
def dK:Option (((List Label)×Nat)⊕((List Label)×Nat×Bool)):=
 if (v1_27:Int)<(a0.length:Int) then
  (a0[v1_27]?).bind fun (y5:(List Label))=>
  if v1_6.length+y5.length≤1000000000 then
   if IntKind.i64.wrap ((v1_27:Int)+1)=((v1_27+1:Nat):Int) then
    some (.inl (v1_6++y5,v1_27+1))
   else none
  else none
 else
  some (.inr (v1_6,v1_27,decide ((v1_27:Int)<(a0.length:Int))))
abbrev wc(v:((List Label)×Nat)):St:=⟨[(6,(.o 81 (v.1.map ay))),(25,(.l 26 (a0.map (bc 81 ay)))),(26,(I (a0.length:Int))),(27,(I (v.2:Int)))],[],H0⟩
abbrev oj(x:((List Label)×Nat×Bool)):aI×St:=((.ex 2),⟨[(6,(.o 81 (x.1.map ay))),(25,(.l 26 (a0.map (bc 81 ay)))),(26,(I (a0.length:Int))),(27,(I (x.2.1:Int))),(28,(.b x.2.2))],[],H0⟩)
theorem u7(o:((List Label)×Nat)⊕((List Label)×Nat×Bool))(h:dK a0 v1_6 v1_27=some o):bz E0 QJ (wc a0) (oj a0) (v1_6,v1_27) o:=
 bG (.or (bt<|ao (.n v1_27)<|.ex fun (y5:(List Label))=>ao (.v (.l 81 (y5.map ay)))<|ao (.l ((v1_6++y5).map ay))<|ao (.i ((v1_27+1:Nat):Int))<|.nil) (bf<|.nil)) fun L=>bP h (fun h4 h=>ai (av h4)<|ai (rI v1_27)<|bR h fun y5 h6 h=>ai (aD (bc 81 ay) h6)<|ai ff<|aJ h fun h7 h=>ai ((ir ay (n:=2) (fun _=>rfl) y5):(y5.map ay).all (fun e=>e.nc==2)=true)<|ai ((la h7 (by decide)):((v1_6.map ay).length+(y5.map ay).length)*48≤140737488355328)<|ai ((lf h7):(v1_6.map ay).length+(y5.map ay).length≤maxLen)<|ai (cI.symm:v1_6.map ay++y5.map ay=(v1_6++y5).map ay)<|aJ h fun w8 h=>ai w8<|L h) (fun h4 h=>ai (aw h4)<|L h)
abbrev xt(a0:(List (List Label)))(r:(List Label)):bm×HP:=(.ret (.l 81 (r.map ay)),H0)
def iB:Option (List Label):=
 (lp (fun v=>dJ a0 v.1 v.2) (0,0)).bind fun (x1:(Int×Nat×Bool))=>
 if 0≤x1.1∧x1.1≤1000000 then
  (lp (fun v=>dK a0 v.1 v.2) (([]:List Label),0)).bind fun (x4:((List Label)×Nat×Bool))=>
  some x4.1
 else none
theorem u9(r:(List Label))(h:iB a0=some r):call G Ω0 E0 133 [(.l 26 (a0.map (bc 81 ay)))] H0=some (xt a0 r):=
 aX ajG (ao (.i (a0.length:Int))<|.ex fun (x1:(Int×Nat×Bool))=>ao (.bX (oi a0 x1))<|ao (.i (a0.length:Int))<|.ex fun (x4:((List Label)×Nat×Bool))=>ao (.bX (oj a0 x4))<|.nil) fun L=>ai (aC (bc 81 ay) a0)<|aW h (dZ (fun v=>u6 a0 v.1 v.2) (0,0)) fun x1 h=>aJ h fun h3 h=>ai (Tp h3:Ω0 155 [.n,(I x1.1)]=some (.o 81 []))<|ai (aC (bc 81 ay) a0)<|aW h (dZ (fun v=>u7 a0 v.1 v.2) (([]:List Label),0)) fun x4 h=>L h
end
section
variable (a0:Int)(a1:aj)
abbrev Fy(a0:Int)(a1:aj)(r:Bool):bm×HP:=(.ret (.b r),H0)
def oI:Option Bool:=
 (jN a1 a0).bind fun (r1:Bool)=>
 some (!r1)
theorem Ca(r:Bool)(h:oI a0 a1=some r):call G Ω0 E0 167 [(I a0),(.e (.a [(I a1.Many),(.l 166 (a1.Grants.map aG))]) 0)] H0=some (Fy a0 a1 r):=
 aX ajX (xB fun r1=>.nil) fun L=>aW h (lG a1 a0) fun r1 h=>L h
end
section
variable (a0:(List Int))(a1:aj)(v0_8:Nat)
def jW:Option (Nat⊕(Nat⊕(Nat×Bool))):=
 if (v0_8:Int)<(a0.length:Int) then
  (a0[v0_8]?).bind fun (y2:Int)=>
  (oI y2 a1).bind fun (r4:Bool)=>
  if r4=true then
   some (.inr (.inl v0_8))
  else
   if IntKind.i64.wrap ((v0_8:Int)+1)=((v0_8+1:Nat):Int) then
    some (.inl (v0_8+1))
   else none
 else
  some (.inr (.inr (v0_8,decide ((v0_8:Int)<(a0.length:Int)))))
abbrev qE(v:Nat):St:=⟨[(0,(.l 3 (a0.map (I)))),(1,(.f 167 [(.e (.a [(I a1.Many),(.l 166 (a1.Grants.map aG))]) 0)])),(7,(I (a0.length:Int))),(8,(I (v:Int)))],[],H0⟩
abbrev fF(x:(Nat⊕(Nat×Bool))):aI×St:=match x with | .inl z1=>(.ret,⟨[(4,(I (z1:Int)))],[],H0⟩) | .inr (z1,z2)=>((.ex 0),⟨[(0,(.l 3 (a0.map (I)))),(1,(.f 167 [(.e (.a [(I a1.Many),(.l 166 (a1.Grants.map aG))]) 0)])),(7,(I (a0.length:Int))),(8,(I (z1:Int))),(9,(.b z2))],[],H0⟩)
theorem pV(o:Nat⊕(Nat⊕(Nat×Bool)))(h:jW a0 a1 v0_8=some o):bz E0 GF (qE a0 a1) (fF a0 a1) v0_8 o:=
 bG (.or (bt<|ao (.n v0_8)<|xI fun y2=>xB fun r4=>oN (ao (.i ((v0_8+1:Nat):Int))<|.nil)) (bf<|.nil)) fun L=>bP h (fun h1 h=>ai (av h1)<|ai (rI v0_8)<|bR h fun y2 h3 h=>ai (aD (I) h3)<|aW h (Ca y2 a1) fun r4 h=>bI h (fun h6 h=>ai h6<|L h) (fun h6 h=>ai h6<|aJ h fun w7 h=>ai w7<|L h)) (fun h1 h=>ai (aw h1)<|L h)
abbrev sc(a0:(List Int))(a1:aj)(r:Int):bm×HP:=(.ret (I r),H0)
def kT:Option Int:=
 (lp (fun v=>jW a0 a1 v) 0).bind fun (x1:(Nat⊕(Nat×Bool)))=>match x1 with
 | .inl ya_2=>
  some (ya_2:Int)
 | .inr yb_2=>
  some (-1)
theorem pW(r:Int)(h:kT a0 a1=some r):call G Ω0 E0 143 [(.l 3 (a0.map (I))),(.f 167 [(.e (.a [(I a1.Many),(.l 166 (a1.Grants.map aG))]) 0)])] H0=some (sc a0 a1 r):=
 aX Tf (ao (.i (a0.length:Int))<|.or (.ex fun (ya_2:Nat)=>ao (.bX (fF a0 a1 (.inl ya_2)))<|.nil) (.ex fun (yb_2:(Nat×Bool))=>ao (.bX (fF a0 a1 (.inr yb_2)))<|.nil)) fun L=>ai (aC (I) a0)<|dy h (dZ (pV a0 a1) 0) (fun ya_2 h=>L h) (fun yb_2 h=>L h)
abbrev pX(a0:(List Int))(a1:aj)(r:Bool):bm×HP:=(.ret (.b r),H0)
def fk:Option Bool:=
 (kT a0 a1).bind fun (r1:Int)=>
 some (decide (0≤r1))
theorem oJ(r:Bool)(h:fk a0 a1=some r):call G Ω0 E0 105 [(.l 3 (a0.map (I))),(.f 167 [(.e (.a [(I a1.Many),(.l 166 (a1.Grants.map aG))]) 0)])] H0=some (pX a0 a1 r):=
 aX Te (xI fun r1=>.nil) fun L=>aW h (pW a0 a1) fun r1 h=>L h
end
section
variable (a1:bD)(v0_5:Nat)(a0:aj)
def fG:Option (Nat⊕(Unit⊕(Nat×Bool))):=
 if (v0_5:Int)<(a1.Names.length:Int) then
  (a1.Names[v0_5]?).bind fun (y9:Int)=>
  if IntKind.i64.wrap ((v0_5:Int) - 1)=(v0_5:Int) - 1 then
   (ed ((v0_5:Int) - 1)).bind fun (j12:Nat)=>
   (a1.Names[j12]?).bind fun (y14:Int)=>
   if y9≤y14 then
    some (.inr (.inl ()))
   else
    if IntKind.i64.wrap ((v0_5:Int)+1)=((v0_5+1:Nat):Int) then
     some (.inl (v0_5+1))
    else none
  else none
 else
  some (.inr (.inr (v0_5,decide ((v0_5:Int)<(a1.Names.length:Int)))))
abbrev Fz(v:Nat):St:=⟨[(3,(.p ⟨0,3⟩ 0)),(5,(I (v:Int)))],[(3,[(I a1.Owner),(.l 3 (a1.Names.map (I)))])],H0⟩
abbrev s9(x:(Unit⊕(Nat×Bool))):aI×St:=match x with | .inl ()=>(.ret,⟨[(4,(I 4))],[],H0⟩) | .inr (z1,z2)=>((.ex 1),⟨[(3,(.p ⟨0,3⟩ 0)),(5,(I (z1:Int))),(26,(.b z2))],[(3,[(I a1.Owner),(.l 3 (a1.Names.map (I)))])],H0⟩)
theorem Ey(o:Nat⊕(Unit⊕(Nat×Bool)))(h:fG a1 v0_5=some o):bz E0 QO (Fz a1) (s9 a1) v0_5 o:=
 bG (bt<|ao (.i (a1.Names.length:Int))<|.or (en<|ao (.n v0_5)<|xI fun y9=>bt<|ao (.i ((v0_5:Int) - 1))<|xN fun j12=>xI fun y14=>oN (ao (.i ((v0_5+1:Nat):Int))<|.nil)) (bf<|.nil)) fun L=>ai (rfl:Z0)<|ai (aC (I) a1.Names)<|bP h (fun h8 h=>ai (av h8)<|bq<|ai (rfl:Z0)<|bq<|ai (rI v0_5)<|bR h fun y9 h10 h=>ai (aD (I) h10)<|bq<|ai tt<|ai (rfl:Z0)<|bq<|aJ h fun w11 h=>ai w11<|ai tt<|kC h fun j12 h13 h=>ai h13<|bR h fun y14 h15 h=>ai (aD (I) h15)<|bq<|bP h (fun h16 h=>ai (av h16)<|L h) (fun h16 h=>ai (aw h16)<|aJ h fun w17 h=>ai w17<|L h)) (fun h8 h=>ai (aw h8)<|L h)
abbrev IJ(a0:aj)(a1:bD)(r:Int):bm×HP:=(.ret (I r),H0)
def rm(a1:bD):Option Int:=
 (jN a0 a1.Owner).bind fun (r1:Bool)=>
 if r1=true then
  if 6<(a1.Names.length:Int) then
   some 2
  else
   (fk a1.Names a0).bind fun (r5:Bool)=>
   if r5=true then
    some 5
   else
    (lp (fun v=>fG a1 v) 1).bind fun (x8:(Unit⊕(Nat×Bool)))=>match x8 with
    | .inl ya_9=>
     some 4
    | .inr yb_9=>
     some 0
 else
  some 5
theorem Ez(a1:bD)(r:Int)(h:rm a0 a1=some r):call G Ω0 E0 154 [(.a [(I a0.Many),(.l 166 (a0.Grants.map aG))]),(.a [(I a1.Owner),(.l 3 (a1.Names.map (I)))])] H0=some (IJ a0 a1 r):=
 aX ajR (en<|xB fun r1=>.or (bf<|bt<|ao (.i (a1.Names.length:Int))<|oN (bt<|xB fun r5=>oN (.or (.ex fun (ya_9:Unit)=>ao (.bX (s9 a1 (.inl ya_9)))<|.nil) (.ex fun (yb_9:(Nat×Bool))=>ao (.bX (s9 a1 (.inr yb_9)))<|.nil)))) (bt<|.nil)) fun L=>bq<|kD<|aW h (lG a0 a1.Owner) fun r1 h=>bI h (fun h3 h=>kP (an not h3)<|ai (aC (I) a1.Names)<|bP h (fun h4 h=>ai (av h4)<|L h) (fun h4 h=>Ps (aw h4)<|aW h (oJ a1.Names a0) fun r5 h=>bI h (fun h7 h=>ai h7<|L h) (fun h7 h=>ai h7<|dy h (dZ (Ey a1) 1) (fun ya_9 h=>L h) (fun yb_9 h=>L h)))) (fun h3 h=>ai (an not h3)<|L h)
end
section
variable (a0:aj)(a1:Label)(v0_16:Nat)(y2:(List bD))(v1_25:Nat)
def iv(a1:Label)(v0_16:Nat)(y2:(List bD))(v1_25:Nat):Option (Nat⊕(Int⊕(Nat×Bool))):=
 if (v1_25:Int)<(y2.length:Int) then
  (y2[v1_25]?).bind fun (y6:bD)=>
  (rm a0 y6).bind fun (r8:Int)=>
  if (r8 !=0)=true then
   some (.inr (.inl r8))
  else
   if IntKind.i64.wrap ((v1_25:Int)+1)=((v1_25+1:Nat):Int) then
    some (.inl (v1_25+1))
   else none
 else
  some (.inr (.inr (v1_25,decide ((v1_25:Int)<(y2.length:Int)))))
abbrev IK(v:Nat):St:=⟨[(2,(.p ⟨0,2⟩ 0)),(14,(.l 79 (([a1.Read,a1.Write]).map (bc 138 aE)))),(15,(I ((([a1.Read,a1.Write]).length:Nat):Int))),(16,(I (v0_16:Int))),(23,(.l 138 (y2.map aE))),(24,(I (y2.length:Int))),(25,(I (v:Int)))],[(2,[(I a0.Many),(.l 166 (a0.Grants.map aG))])],H0⟩
abbrev va(x:(Int⊕(Nat×Bool))):aI×St:=match x with | .inl z1=>(.ret,⟨[(4,(I z1))],[],H0⟩) | .inr (z1,z2)=>((.ex 2),⟨[(2,(.p ⟨0,2⟩ 0)),(14,(.l 79 (([a1.Read,a1.Write]).map (bc 138 aE)))),(15,(I ((([a1.Read,a1.Write]).length:Nat):Int))),(16,(I (v0_16:Int))),(23,(.l 138 (y2.map aE))),(24,(I (y2.length:Int))),(25,(I (z1:Int))),(26,(.b z2))],[(2,[(I a0.Many),(.l 166 (a0.Grants.map aG))])],H0⟩)
theorem G1(o:Nat⊕(Int⊕(Nat×Bool)))(h:iv a0 a1 v0_16 y2 v1_25=some o):bz E0 QG (IK a0 a1 v0_16 y2) (va a0 a1 v0_16 y2) v1_25 o:=
 bG (.or (bt<|ao (.n v1_25)<|.ex fun (y6:bD)=>ao (.v (.a [(I y6.Owner),(.l 3 (y6.Names.map (I)))]))<|qx<|xI fun r8=>oN (ao (.i ((v1_25+1:Nat):Int))<|.nil)) (bf<|.nil)) fun L=>bP h (fun h5 h=>ai (av h5)<|ai (rI v1_25)<|bR h fun y6 h7 h=>ai (aD aE h7)<|ai tt<|ai ff<|fB<|kD<|ai (rfl:Z0)<|aW h (Ez a0 y6) fun r8 h=>bI h (fun h10 h=>ai h10<|L h) (fun h10 h=>ai h10<|aJ h fun w11 h=>ai w11<|L h)) (fun h5 h=>ai (aw h5)<|L h)
def cE:Option (Nat⊕(Unit⊕(Int⊕(Nat×Bool)))):=
 if (v0_16:Int)<((([a1.Read,a1.Write]).length:Nat):Int) then
  (([a1.Read,a1.Write])[v0_16]?).bind fun (y2:(List bD))=>
  if 4<(y2.length:Int) then
   some (.inr (.inl ()))
  else
   (lp (fun v=>iv a0 a1 v0_16 y2 v) 0).bind fun (x5:(Int⊕(Nat×Bool)))=>match x5 with
   | .inl ya_6=>
    some (.inr (.inr (.inl ya_6)))
   | .inr yb_6=>
    if IntKind.i64.wrap ((v0_16:Int)+1)=((v0_16+1:Nat):Int) then
     some (.inl (v0_16+1))
    else none
 else
  some (.inr (.inr (.inr (v0_16,decide ((v0_16:Int)<((([a1.Read,a1.Write]).length:Nat):Int))))))
abbrev IL(v:Nat):St:=⟨[(2,(.p ⟨0,2⟩ 0)),(14,(.l 79 (([a1.Read,a1.Write]).map (bc 138 aE)))),(15,(I ((([a1.Read,a1.Write]).length:Nat):Int))),(16,(I (v:Int)))],[(2,[(I a0.Many),(.l 166 (a0.Grants.map aG))])],H0⟩
abbrev rn(x:(Unit⊕(Int⊕(Nat×Bool)))):aI×St:=match x with | .inl ()=>(.ret,⟨[(4,(I 2))],[],H0⟩) | .inr (.inl z1)=>(.ret,⟨[(4,(I z1))],[],H0⟩) | .inr (.inr (z1,z2))=>((.ex 0),⟨[(2,(.p ⟨0,2⟩ 0)),(14,(.l 79 (([a1.Read,a1.Write]).map (bc 138 aE)))),(15,(I ((([a1.Read,a1.Write]).length:Nat):Int))),(16,(I (z1:Int))),(17,(.b z2))],[(2,[(I a0.Many),(.l 166 (a0.Grants.map aG))])],H0⟩)
theorem G2(o:Nat⊕(Unit⊕(Int⊕(Nat×Bool))))(h:cE a0 a1 v0_16=some o):bz E0 QH (IL a0 a1) (rn a0 a1) v0_16 o:=
 bG (.or (bt<|ao (.n v0_16)<|.ex fun (y2:(List bD))=>ao (.v (.l 138 (y2.map aE)))<|ao (.i (y2.length:Int))<|oN (ao (.i (y2.length:Int))<|.or (.ex fun (ya_6:Int)=>ao (.bX (va a0 a1 v0_16 y2 (.inl ya_6)))<|.nil) (.ex fun (yb_6:(Nat×Bool))=>ao (.bX (va a0 a1 v0_16 y2 (.inr yb_6)))<|ao (.i ((v0_16+1:Nat):Int))<|.nil))) (bf<|.nil)) fun L=>bP h (fun h1 h=>ai (av h1)<|ai (rI v0_16)<|bR h fun y2 h3 h=>ai (aD (bc 138 aE) h3)<|ai (aC aE y2)<|bP h (fun h4 h=>ai (av h4)<|L h) (fun h4 h=>ai (aw h4)<|ai (aC aE y2)<|dy h (dZ (G1 a0 a1 v0_16 y2) 0) (fun ya_6 h=>L h) (fun yb_6 h=>aJ h fun w8 h=>ai w8<|L h))) (fun h1 h=>ai (aw h1)<|L h)
abbrev L5(a0:aj)(a1:Label)(r:Int):bm×HP:=(.ret (I r),H0)
def qF:Option Int:=
 (lp (fun v=>cE a0 a1 v) 0).bind fun (x1:(Unit⊕(Int⊕(Nat×Bool))))=>match x1 with
 | .inl ya_2=>
  some 2
 | .inr (.inl yb_2)=>
  some yb_2
 | .inr (.inr yc_2)=>
  some 0
theorem zx(r:Int)(h:qF a0 a1=some r):call G Ω0 E0 129 [(.a [(I a0.Many),(.l 166 (a0.Grants.map aG))]),(.a [(.l 138 (a1.Read.map aE)),(.l 138 (a1.Write.map aE))])] H0=some (L5 a0 a1 r):=
 aX ajE (en<|ao (.l (([a1.Read,a1.Write]).map (bc 138 aE)))<|ao (.i ((([a1.Read,a1.Write]).length:Nat):Int))<|.or (.ex fun (ya_2:Unit)=>ao (.bX (rn a0 a1 (.inl ya_2)))<|.nil) (.or (.ex fun (yb_2:Int)=>ao (.bX (rn a0 a1 (.inr (.inl yb_2))))<|.nil) (.ex fun (yc_2:(Nat×Bool))=>ao (.bX (rn a0 a1 (.inr (.inr yc_2))))<|.nil))) fun L=>bq<|kD<|ai (rfl:[(.l 138 (a1.Read.map aE)),(.l 138 (a1.Write.map aE))]=([a1.Read,a1.Write]).map (bc 138 aE))<|ai (aC (bc 138 aE) ([a1.Read,a1.Write]))<|K0 h (dZ (G2 a0 a1) 0) (fun ya_2 h=>L h) (fun yb_2 h=>L h) (fun yc_2 h=>L h)
end
section
variable (a0:Var)
abbrev IM(a0:Var)(r:Bool):bm×HP:=(.ret (.b r),H0)
def rp:Option Bool:=
 if a0.Known=true then
  some false
 else
  if IntKind.i64.wrap ((a0.Label.Read.length:Int)+(a0.Label.Write.length:Int))=(a0.Label.Read.length:Int)+(a0.Label.Write.length:Int) then
   some (decide (0<((a0.Label.Read.length:Int)+(a0.Label.Write.length:Int))))
  else none
theorem EA(r:Bool)(h:rp a0=some r):call G Ω0 E0 135 [(.a (Ly a0))] H0=some (IM a0 r):=
 aX ajI (bt<|.or (bf<|bf<|bf<|bf<|bf<|bf<|bf<|bf<|bf<|bf<|bf<|.nil) (uF<|ao (.i (a0.Label.Read.length:Int))<|uF<|ao (.i (a0.Label.Write.length:Int))<|bt<|ao (.i ((a0.Label.Read.length:Int)+(a0.Label.Write.length:Int)))<|en<|.nil)) fun L=>su<|bI h (fun h1 h=>dt (an not h1)<|dt (an not h1)<|dt (an not h1)<|dt (an not h1)<|dt (an not h1)<|ai (an not h1)<|L h) (fun h1 h=>dt (an not h1)<|ai (g1 (an not h1))<|ai (rfl:Z0)<|ai (g1 (an not h1))<|ai (aC aE a0.Label.Read)<|dt (an not h1)<|ai (g1 (an not h1))<|ai (rfl:Z0)<|ai (g1 (an not h1))<|ai (aC aE a0.Label.Write)<|ai (g1 (an not h1))<|aJ h fun w2 h=>ai w2<|rZ (an not h1)<|L h)
end
section
variable (a0:(List Var))(v0_8:Nat)
def kU:Option (Nat⊕(Nat⊕(Nat×Bool))):=
 if (v0_8:Int)<(a0.length:Int) then
  (a0[v0_8]?).bind fun (y2:Var)=>
  (rp y2).bind fun (r4:Bool)=>
  if r4=true then
   some (.inr (.inl v0_8))
  else
   if IntKind.i64.wrap ((v0_8:Int)+1)=((v0_8+1:Nat):Int) then
    some (.inl (v0_8+1))
   else none
 else
  some (.inr (.inr (v0_8,decide ((v0_8:Int)<(a0.length:Int)))))
abbrev sd(v:Nat):St:=⟨[(0,(.l 83 (a0.map cJ))),(1,(.f 135 [])),(7,(I (a0.length:Int))),(8,(I (v:Int)))],[],H0⟩
abbrev gI(x:(Nat⊕(Nat×Bool))):aI×St:=match x with | .inl z1=>(.ret,⟨[(4,(I (z1:Int)))],[],H0⟩) | .inr (z1,z2)=>((.ex 0),⟨[(0,(.l 83 (a0.map cJ))),(1,(.f 135 [])),(7,(I (a0.length:Int))),(8,(I (z1:Int))),(9,(.b z2))],[],H0⟩)
theorem rq(o:Nat⊕(Nat⊕(Nat×Bool)))(h:kU a0 v0_8=some o):bz E0 QP (sd a0) (gI a0) v0_8 o:=
 bG (.or (bt<|ao (.n v0_8)<|.ex fun (y2:Var)=>ao (.v (.a (Ly y2)))<|xB fun r4=>oN (ao (.i ((v0_8+1:Nat):Int))<|.nil)) (bf<|.nil)) fun L=>bP h (fun h1 h=>ai (av h1)<|ai (rI v0_8)<|bR h fun y2 h3 h=>ai (aD cJ h3)<|aW h (EA y2) fun r4 h=>bI h (fun h6 h=>ai h6<|L h) (fun h6 h=>ai h6<|aJ h fun w7 h=>ai w7<|L h)) (fun h1 h=>ai (aw h1)<|L h)
abbrev ta(a0:(List Var))(r:Int):bm×HP:=(.ret (I r),H0)
def l7:Option Int:=
 (lp (fun v=>kU a0 v) 0).bind fun (x1:(Nat⊕(Nat×Bool)))=>match x1 with
 | .inl ya_2=>
  some (ya_2:Int)
 | .inr yb_2=>
  some (-1)
theorem rr(r:Int)(h:l7 a0=some r):call G Ω0 E0 156 [(.l 83 (a0.map cJ)),(.f 135 [])] H0=some (ta a0 r):=
 aX ajS (ao (.i (a0.length:Int))<|.or (.ex fun (ya_2:Nat)=>ao (.bX (gI a0 (.inl ya_2)))<|.nil) (.ex fun (yb_2:(Nat×Bool))=>ao (.bX (gI a0 (.inr yb_2)))<|.nil)) fun L=>ai (aC cJ a0)<|dy h (dZ (rq a0) 0) (fun ya_2 h=>L h) (fun yb_2 h=>L h)
abbrev rv(a0:(List Var))(r:Bool):bm×HP:=(.ret (.b r),H0)
def fW:Option Bool:=
 (l7 a0).bind fun (r1:Int)=>
 some (decide (0≤r1))
theorem pf(r:Bool)(h:fW a0=some r):call G Ω0 E0 134 [(.l 83 (a0.map cJ)),(.f 135 [])] H0=some (rv a0 r):=
 aX ajH (xI fun r1=>.nil) fun L=>aW h (rr a0) fun r1 h=>L h
def zy:List cN:=(gM 38 37)::⟨some 39,.fa 2 1,some ⟨38,false⟩,false⟩::⟨some 40,.ld none 39,some ⟨38,false⟩,false⟩::⟨some 41,.ln false 40,some ⟨38,false⟩,false⟩::⟨some 42,.fa 0 1,some ⟨38,false⟩,false⟩::⟨some 43,.fa 0 42,some ⟨38,false⟩,false⟩::⟨some 44,.ld none 43,some ⟨38,false⟩,false⟩::⟨some 45,.bo .gtr false 41 44,some ⟨38,false⟩,false⟩::(gp 46 (.pk 38 (.c (.b true)) 45))::[]
end
section
variable (a0:Program)(r10:(List Label))(v0_58:Nat)(v1_73:Nat)
def kj(u2_1:Bool):Option Bool:=
 if u2_1=true then
  some true
 else
  some (decide (a0.aj.Many<(a0.Speak.length:Int)))
abbrev mO(u2_1:Bool)(x:Bool):St:=⟨[(1,(.p ⟨0,1⟩ 0)),(46,(.b x))],[(1,(ar a0))],H0⟩
theorem oK(u2_1:Bool)(w:List AV)(x:Bool)(h:kj a0 u2_1=some x):rY G Ω0 E0 [1,46] [1] zy ⟨[(37,(.b u2_1)),(36,(W w 0)),(35,(W w 1)),(34,(W w 2)),(33,(W w 3)),(32,(W w 4)),(31,(W w 5)),(30,(W w 6)),(29,(W w 7)),(28,(W w 8)),(27,(W w 9)),(26,(W w 10)),(25,(W w 11)),(24,(W w 12)),(23,(W w 13)),(22,(W w 14)),(21,(W w 15)),(20,(.b (decide (16<(a0.Vars.length:Int))))),(19,(.b (decide (16<(a0.Vars.length:Int))))),(18,(I (a0.Vars.length:Int))),(17,(.l 83 (a0.Vars.map cJ))),(16,(.p ⟨0,1⟩ 5)),(1,(.p ⟨0,1⟩ 0))],[(1,(ar a0))],H0⟩=some (mO a0 u2_1 x):=
 ss (.or (bf<|bf<|bf<|bf<|bf<|bf<|bf<|bt<|.nil) (qx<|ao (.i (a0.Speak.length:Int))<|Tw<|.nil)) fun L=>bI h (fun h7 h=>bY h7<|bY h7<|bY h7<|jy h7<|L h) (fun h7 h=>GK h7<|ai (aC (I) a0.Speak)<|bY h7<|ai (g0 h7)<|ai (rfl:Z0)<|jy h7<|L h)
def G3:List cN:=(gF 16 5 1)::(gQ 17 16)::(gl 18 17)::(gB 19 .gtr 18 (kI 16))::(gM 20 19)::⟨some 21,.fa 3 1,some ⟨20,false⟩,false⟩::⟨some 22,.ld none 21,some ⟨20,false⟩,false⟩::⟨some 23,.ln false 22,some ⟨20,false⟩,false⟩::⟨some 24,.bo .gtr false 23 (kI 5),some ⟨20,false⟩,false⟩::(gp 25 (.pk 20 (.c (.b true)) 24))::(gM 26 25)::⟨some 27,.fa 4 1,some ⟨26,false⟩,false⟩::⟨some 28,.ld none 27,some ⟨26,false⟩,false⟩::⟨some 29,.ln false 28,some ⟨26,false⟩,false⟩::⟨some 30,.bo .gtr false 29 (kI 5),some ⟨26,false⟩,false⟩::(gp 31 (.pk 26 (.c (.b true)) 30))::(gM 32 31)::⟨some 33,.fa 6 1,some ⟨32,false⟩,false⟩::⟨some 34,.ld none 33,some ⟨32,false⟩,false⟩::⟨some 35,.ln false 34,some ⟨32,false⟩,false⟩::⟨some 36,.bo .gtr false 35 (kI 5),some ⟨32,false⟩,false⟩::(gp 37 (.pk 32 (.c (.b true)) 36))::zy
def pG:Option Bool:=
 if 16<(a0.Vars.length:Int) then
  (kj a0 true).bind fun (x5:Bool)=>
  some x5
 else
  if 5<(a0.Ins.length:Int) then
   (kj a0 true).bind fun (x6:Bool)=>
   some x6
  else
   if 5<(a0.Outs.length:Int) then
    (kj a0 true).bind fun (x7:Bool)=>
    some x7
   else
    (kj a0 (decide (5<(a0.Funcs.length:Int)))).bind fun (x7:Bool)=>
    some x7
abbrev zz(x:Bool):St:=⟨[(1,(.p ⟨0,1⟩ 0)),(46,(.b x))],[(1,(ar a0))],H0⟩
theorem FA(x:Bool)(h:pG a0=some x):rY G Ω0 E0 [1,46] [1] G3 ⟨[(1,(.p ⟨0,1⟩ 0))],[(1,(ar a0))],H0⟩=some (zz a0 x):=
 ss (bt<|ao (.i (a0.Vars.length:Int))<|.or (abd<|.jb (some 38) 8<|.ex fun (x5:Bool)=>ao (.jn (mO a0 true x5))<|.nil) (qx<|ao (.i (a0.Ins.length:Int))<|wW<|.or (abe<|.jb (some 38) 8<|.ex fun (x6:Bool)=>ao (.jn (mO a0 true x6))<|.nil) (qx<|ao (.i (a0.Outs.length:Int))<|wW<|.or (VI<|.jb (some 38) 8<|.ex fun (x7:Bool)=>ao (.jn (mO a0 true x7))<|.nil) (qx<|ao (.i (a0.Funcs.length:Int))<|wW<|.jb (some 38) 8<|.ex fun (x7:Bool)=>ao (.jn (mO a0 (decide (5<(a0.Funcs.length:Int))) x7))<|.nil)))) fun L=>ai (rfl:Z0)<|ai (aC cJ a0.Vars)<|bP h (fun h4 h=>bY (av h4)<|bY (av h4)<|ai (av h4)<|nu<|nu<|ai tt<|nu<|nu<|ai tt<|aW h (oK a0 true [.sk,.sk,.sk,.sk,(.b true),(.b true),.sk,.sk,.sk,.sk,(.b true),(.b true),.sk,.sk,.sk,.sk]) fun x5 h=>L h) (fun h4 h=>GK (aw h4)<|ai (aC ay a0.Ins)<|jy (aw h4)<|bP h (fun h5 h=>bY (av h5)<|bY (av h5)<|ai (av h5)<|nu<|nu<|ai tt<|aW h (oK a0 true [.sk,.sk,.sk,.sk,(.b true),(.b true),.sk,.sk,.sk,.sk,(.b (decide (5<(a0.Ins.length:Int)))),(.b (decide (5<(a0.Ins.length:Int)))),(.b (decide (5<(a0.Ins.length:Int)))),(I (a0.Ins.length:Int)),(.l 81 (a0.Ins.map ay)),(.p ⟨0,1⟩ 3)]) fun x6 h=>L h) (fun h5 h=>GK (aw h5)<|ai (aC ay a0.Outs)<|jy (aw h5)<|bP h (fun h6 h=>VH (av h6)<|aW h (oK a0 true [.sk,.sk,.sk,.sk,(.b (decide (5<(a0.Outs.length:Int)))),(.b (decide (5<(a0.Outs.length:Int)))),(.b (decide (5<(a0.Outs.length:Int)))),(I (a0.Outs.length:Int)),(.l 81 (a0.Outs.map ay)),(.p ⟨0,1⟩ 4),(.b (decide (5<(a0.Ins.length:Int)))),(.b (decide (5<(a0.Ins.length:Int)))),(.b (decide (5<(a0.Ins.length:Int)))),(I (a0.Ins.length:Int)),(.l 81 (a0.Ins.map ay)),(.p ⟨0,1⟩ 3)]) fun x7 h=>L h) (fun h6 h=>GK (aw h6)<|ai (aC cA a0.Funcs)<|jy (aw h6)<|aW h (oK a0 (decide (5<(a0.Funcs.length:Int))) [(.b (decide (5<(a0.Funcs.length:Int)))),(I (a0.Funcs.length:Int)),(.l 101 (a0.Funcs.map cA)),(.p ⟨0,1⟩ 6),(.b (decide (5<(a0.Outs.length:Int)))),(.b (decide (5<(a0.Outs.length:Int)))),(.b (decide (5<(a0.Outs.length:Int)))),(I (a0.Outs.length:Int)),(.l 81 (a0.Outs.map ay)),(.p ⟨0,1⟩ 4),(.b (decide (5<(a0.Ins.length:Int)))),(.b (decide (5<(a0.Ins.length:Int)))),(.b (decide (5<(a0.Ins.length:Int)))),(I (a0.Ins.length:Int)),(.l 81 (a0.Ins.map ay)),(.p ⟨0,1⟩ 3)]) fun x7 h=>L h)))
def nZ:Option (Nat⊕(Int⊕(Nat×Bool))):=
 if (v0_58:Int)<(r10.length:Int) then
  (r10[v0_58]?).bind fun (y13:Label)=>
  (qF a0.aj y13).bind fun (r15:Int)=>
  if (r15 !=0)=true then
   some (.inr (.inl r15))
  else
   if IntKind.i64.wrap ((v0_58:Int)+1)=((v0_58+1:Nat):Int) then
    some (.inl (v0_58+1))
   else none
 else
  some (.inr (.inr (v0_58,decide ((v0_58:Int)<(r10.length:Int)))))
abbrev IN(v:Nat):St:=⟨[(1,(.e (.a (ar a0)) 0)),(56,(.l 81 (r10.map ay))),(57,(I (r10.length:Int))),(58,(I (v:Int)))],[],H0⟩
abbrev vc(x:(Int⊕(Nat×Bool))):aI×St:=match x with | .inl z1=>(.ret,⟨[(2,(I z1))],[],H0⟩) | .inr (z1,z2)=>((.ex 0),⟨[(1,(.e (.a (ar a0)) 0)),(56,(.l 81 (r10.map ay))),(57,(I (r10.length:Int))),(58,(I (z1:Int))),(59,(.b z2))],[],H0⟩)
theorem G6(o:Nat⊕(Int⊕(Nat×Bool)))(h:nZ a0 r10 v0_58=some o):bz E0 Vx (IN a0 r10) (vc a0 r10) v0_58 o:=
 bG (.or (bt<|ao (.n v0_58)<|.ex fun (y13:Label)=>ao (.v (.a [(.l 138 (y13.Read.map aE)),(.l 138 (y13.Write.map aE))]))<|iu<|xI fun r15=>oN (ao (.i ((v0_58+1:Nat):Int))<|.nil)) (bf<|.nil)) fun L=>bP h (fun h12 h=>ai (av h12)<|ai (rI v0_58)<|bR h fun y13 h14 h=>ai (aD ay h14)<|JA<|aW h (zx a0.aj y13) fun r15 h=>bI h (fun h17 h=>ai h17<|L h) (fun h17 h=>ai h17<|aJ h fun w18 h=>ai w18<|L h)) (fun h12 h=>ai (aw h12)<|L h)
def n4:Option (Nat⊕(Int⊕(Nat×Bool))):=
 if (v1_73:Int)<(a0.Vars.length:Int) then
  (a0.Vars[v1_73]?).bind fun (y16:Var)=>
  (qF a0.aj y16.Label).bind fun (r18:Int)=>
  if (r18 !=0)=true then
   some (.inr (.inl r18))
  else
   if IntKind.i64.wrap ((v1_73:Int)+1)=((v1_73+1:Nat):Int) then
    some (.inl (v1_73+1))
   else none
 else
  some (.inr (.inr (v1_73,decide ((v1_73:Int)<(a0.Vars.length:Int)))))
abbrev IP(v:Nat):St:=⟨[(1,(.e (.a (ar a0)) 0)),(71,(.l 83 (a0.Vars.map cJ))),(72,(I (a0.Vars.length:Int))),(73,(I (v:Int)))],[],H0⟩
abbrev vd(x:(Int⊕(Nat×Bool))):aI×St:=match x with | .inl z1=>(.ret,⟨[(2,(I z1))],[],H0⟩) | .inr (z1,z2)=>((.ex 2),⟨[(1,(.e (.a (ar a0)) 0)),(71,(.l 83 (a0.Vars.map cJ))),(72,(I (a0.Vars.length:Int))),(73,(I (z1:Int))),(74,(.b z2))],[],H0⟩)
theorem G7(o:Nat⊕(Int⊕(Nat×Bool)))(h:n4 a0 v1_73=some o):bz E0 Vy (IP a0) (vd a0) v1_73 o:=
 bG (.or (bt<|ao (.n v1_73)<|.ex fun (y16:Var)=>ao (.v (.a (Ly y16)))<|iu<|xI fun r18=>oN (ao (.i ((v1_73+1:Nat):Int))<|.nil)) (bf<|.nil)) fun L=>bP h (fun h15 h=>ai (av h15)<|ai (rI v1_73)<|bR h fun y16 h17 h=>ai (aD cJ h17)<|JA<|aW h (zx a0.aj y16.Label) fun r18 h=>bI h (fun h20 h=>ai h20<|L h) (fun h20 h=>ai h20<|aJ h fun w21 h=>ai w21<|L h)) (fun h15 h=>ai (aw h15)<|L h)
abbrev L6(a0:Program)(r:Int):bm×HP:=(.ret (I r),H0)
def uc:Option Int:=
 (rh a0.aj).bind fun (r1:Int)=>
 if (r1 !=0)=true then
  some r1
 else
  (pG a0).bind fun (x4:Bool)=>
  if x4=true then
   some 2
  else
   (fV a0.Speak a0).bind fun (r7:Bool)=>
   if r7=true then
    some 5
   else
    (iB ([a0.Ins,a0.Outs])).bind fun (r10:(List Label))=>
    (lp (fun v=>nZ a0 r10 v) 0).bind fun (x12:(Int⊕(Nat×Bool)))=>match x12 with
    | .inl ya_13=>
     some ya_13
    | .inr yb_13=>
     (lp (fun v=>n4 a0 v) 0).bind fun (x15:(Int⊕(Nat×Bool)))=>match x15 with
     | .inl ya_16=>
      some ya_16
     | .inr yb_16=>
      (fW a0.Vars).bind fun (r18:Bool)=>
      if r18=true then
       some 1
      else
       some 0
theorem G8(r:Int)(h:uc a0=some r):call G Ω0 E0 92 [(.a (ar a0))] H0=some (L6 a0 r):=
 aX G92 (bt<|xI fun r1=>oN (.jb (some 16) 30<|.ex fun (x4:Bool)=>ao (.jn (zz a0 x4))<|oN (xB fun r7=>oN (ao (.l (([a0.Ins,a0.Outs]).map (bc 81 ay)))<|.ex fun (r10:(List Label))=>ao (.v (.l 81 (r10.map ay)))<|ao (.i (r10.length:Int))<|.or (.ex fun (ya_13:Int)=>ao (.bX (vc a0 r10 (.inl ya_13)))<|.nil) (.ex fun (yb_13:(Nat×Bool))=>ao (.bX (vc a0 r10 (.inr yb_13)))<|ao (.i (a0.Vars.length:Int))<|.or (.ex fun (ya_16:Int)=>ao (.bX (vd a0 (.inl ya_16)))<|.nil) (.ex fun (yb_16:(Nat×Bool))=>ao (.bX (vd a0 (.inr yb_16)))<|xB fun r18=>oN (.nil))))))) fun L=>su<|aW h (Ew a0.aj) fun r1 h=>bI h (fun h3 h=>ai h3<|L h) (fun h3 h=>ai h3<|aW h (FA a0) fun x4 h=>bI h (fun h6 h=>ai h6<|L h) (fun h6 h=>kP h6<|aW h (pd a0.Speak a0) fun r7 h=>bI h (fun h9 h=>ai h9<|L h) (fun h9 h=>ai h9<|ai (rfl:[(.l 81 (a0.Ins.map ay)),(.l 81 (a0.Outs.map ay))]=([a0.Ins,a0.Outs]).map (bc 81 ay))<|aW h (u9 ([a0.Ins,a0.Outs])) fun r10 h=>ai (aC ay r10)<|dy h (dZ (G6 a0 r10) 0) (fun ya_13 h=>L h) (fun yb_13 h=>ai (aC cJ a0.Vars)<|dy h (dZ (G7 a0) 0) (fun ya_16 h=>L h) (fun yb_16 h=>aW h (pf a0.Vars) fun r18 h=>bI h (fun h20 h=>ai h20<|L h) (fun h20 h=>ai h20<|L h))))))
end
section
variable (dp:Nat)(hp:HP)(k0:Key)
abbrev Kg(dp:Nat)(hp:HP)(k0:Key)(a0:Stmt)(a1:Int)(c0:Int)(r:(Bool×Int)):bm×HP:=(.ret (.b r.1),aF hp k0 [(I r.2)])
def wJ(a0:Stmt)(a1:Int)(c0:Int):Option (Bool×Int):=
 if IntKind.i64.wrap (c0+1)=c0+1 then
  if (c0+1)≤50 then
   some ((decide (a1≤6)),(c0+1))
  else
   some (false,(c0+1))
 else none
theorem FB(hk_k0:k0.dp<dp)(hz:cF dp hp)(a0:Stmt)(a1:Int)(c0:Int)(r:(Bool×Int))(h:wJ a0 a1 c0=some r):call G Ω0 ⟨dp,false⟩ 136 [(.a (bN a0)),(I a1),(.p k0 0)] (aF hp k0 [(I c0)])=some (Kg dp hp k0 a0 a1 c0 r):=
 aX ajJ (bf<|ao (.l [(I c0)])<|ao (.i (c0+1))<|bf<|ao (.l [(I c0)])<|bf<|ao (.h (aF hp k0 [(I (c0+1))]))<|bf<|ao (.l [(I (c0+1))])<|.or (iu<|.nil) (JB<|.nil)) fun L=>ai ((by simp [bN,AV.cC,AV.dB,AV.deep,AV.ee,cP hk_k0,fx hk_k0]):(((.a (bN a0)):AV).deep dp&&(([(0,(.a (bN a0))),(1,(I a1)),(2,(.p k0 0))]:List (Nat×AV)).all (fun y=>y.2.cC ⟨dp,3⟩)&&([]:List (Nat×List AV)).all (fun y=>AV.dB ⟨dp,3⟩ y.2)))=true)<|ai (cT hk_k0)<|ai (eX hp k0 [(I c0)])<|aJ h fun w1 h=>ai w1<|ai ff<|ai (cT hk_k0)<|ai (eX hp k0 [(I c0)])<|ai tt<|ai (cT hk_k0)<|ai (nW hp k0 [(I c0)] [(I (c0+1))])<|ai (cT hk_k0)<|ai (eX hp k0 [(I (c0+1))])<|bP h (fun h2 h=>nX (av h2)<|L h) (fun h2 h=>nX (aw h2)<|L h)
end
section
variable (dp:Nat)(hp:HP)(k0:Key)(a0:(List Stmt))(a1:Int)(c0:Int)
abbrev xu(dp:Nat)(hp:HP)(k0:Key)(a0:(List Stmt))(a1:Int)(c0:Int)(r:(Bool×Int)):bm×HP:=(.ret (.b r.1),aF hp k0 [(I r.2)])
abbrev lk(r:(Bool×Int)):Prop:=call G Ω0 ⟨dp,false⟩ 137 [(.l 92 (a0.map aV)),(I a1),(.f 136 [(.p k0 0)])] (aF hp k0 [(I c0)])=some (xu dp hp k0 a0 a1 c0 r)
end
structure ll where
 f_scope_Walk__scope_few_1:(List Stmt)→Int→Int→Option (Bool×Int)
structure kE(R:ll):Prop where
 f_scope_Walk__scope_few_1:∀ (dp:Nat)(hp:HP)(k0:Key)(hk_k0:k0.dp<dp)(hz:cF dp hp)(a0:(List Stmt))(a1:Int)(c0:Int)(r:(Bool×Int)),R.f_scope_Walk__scope_few_1 a0 a1 c0=some r→lk dp hp k0 a0 a1 c0 r
section
variable (R:ll)(a0:(List Stmt))(a1:Int)(v0_11:Nat)(dp:Nat)(hp:HP)(k0:Key)(c0:Int)
def gN(v0_k0_0:Int):Option ((Nat×Int)⊕(Int⊕(Nat×Bool×Int))):=
 if (v0_11:Int)<(a0.length:Int) then
  (a0[v0_11]?).bind fun (y2:Stmt)=>
  (wJ y2 a1 v0_k0_0).bind fun (r4:(Bool×Int))=>
  if r4.1=true then
   if IntKind.i64.wrap (a1+1)=a1+1 then
    (R.f_scope_Walk__scope_few_1 y2.Then (a1+1) r4.2).bind fun (r8:(Bool×Int))=>
    if r8.1=true then
     (R.f_scope_Walk__scope_few_1 y2.Else (a1+1) r8.2).bind fun (r11:(Bool×Int))=>
     if r11.1=true then
      if IntKind.i64.wrap ((v0_11:Int)+1)=((v0_11+1:Nat):Int) then
       some (.inl (v0_11+1,r11.2))
      else none
     else
      some (.inr (.inl r11.2))
    else
     some (.inr (.inl r8.2))
   else none
  else
   some (.inr (.inl r4.2))
 else
  some (.inr (.inr (v0_11,decide ((v0_11:Int)<(a0.length:Int)),v0_k0_0)))
abbrev we(dp:Nat)(hp:HP)(k0:Key)(a0:(List Stmt))(a1:Int)(v:(Nat×Int)):St:=⟨[(1,(I a1)),(2,(.f 136 [(.p k0 0)])),(9,(.l 92 (a0.map aV))),(10,(I (a0.length:Int))),(11,(I (v.1:Int)))],[],aF hp k0 [(I v.2)]⟩
abbrev jX(dp:Nat)(hp:HP)(k0:Key)(a0:(List Stmt))(a1:Int)(x:(Int⊕(Nat×Bool×Int))):aI×St:=match x with | .inl z1=>(.ret,⟨[(6,(.b false))],[],aF hp k0 [(I z1)]⟩) | .inr (z1,z2,z3)=>((.ex 0),⟨[(1,(I a1)),(2,(.f 136 [(.p k0 0)])),(9,(.l 92 (a0.map aV))),(10,(I (a0.length:Int))),(11,(I (z1:Int))),(12,(.b z2))],[],aF hp k0 [(I z3)]⟩)
theorem ve(hR:kE R)(dp:Nat)(hp:HP)(k0:Key)(hk_k0:k0.dp<dp)(hz:cF dp hp)(a0:(List Stmt))(a1:Int)(v0_11:Nat)(v0_k0_0:Int)(o:(Nat×Int)⊕(Int⊕(Nat×Bool×Int)))(h:gN R a0 a1 v0_11 v0_k0_0=some o):bz ⟨dp,false⟩ Lf (we dp hp k0 a0 a1) (jX dp hp k0 a0 a1) (v0_11,v0_k0_0) o:=
 bG (.or (bt<|ao (.n v0_11)<|.ex fun (y2:Stmt)=>ao (.v (.a (bN y2)))<|iu<|.ex fun (r4:(Bool×Int))=>ao (.v (.b r4.1))<|ao (.h (boxes dp [(8,(bN y2))] (aF hp k0 [(I r4.2)])))<|ao (.bx [(8,(bN y2))])<|ao (.h (aF hp k0 [(I r4.2)]))<|.or (uF<|ao (.i (a1+1))<|en<|.ex fun (r8:(Bool×Int))=>ao (.v (.b r8.1))<|ao (.h (boxes dp [(8,(bN y2))] (aF hp k0 [(I r8.2)])))<|ao (.bx [(8,(bN y2))])<|ao (.h (aF hp k0 [(I r8.2)]))<|wW<|.or (uF<|ao (.i (a1+1))<|en<|.ex fun (r11:(Bool×Int))=>ao (.v (.b r11.1))<|ao (.h (boxes dp [(8,(bN y2))] (aF hp k0 [(I r11.2)])))<|ao (.bx [(8,(bN y2))])<|ao (.h (aF hp k0 [(I r11.2)]))<|wW<|.or (bf<|ao (.i ((v0_11+1:Nat):Int))<|.nil) (bt<|.nil)) (abf<|.nil)) (abg<|.nil)) (bf<|.nil)) fun L=>bP h (fun h1 h=>ai (av h1)<|ai (rI v0_11)<|bR h fun y2 h3 h=>ai (oE aV h3 (ij _))<|ai ((by simp [bN,AV.cC,AV.dB,AV.deep,AV.ee,cP hk_k0,fx hk_k0]):(([(14,(.a (bN y2))),(13,(.e (.a (bN y2)) 0)),(1,(I a1)),(2,(.f 136 [(.p k0 0)])),(9,(.l 92 (a0.map aV))),(10,(I (a0.length:Int))),(11,(I (v0_11:Int)))]:List (Nat×AV)).all (fun y=>y.2.cC ⟨dp,8⟩)&&([]:List (Nat×List AV)).all (fun y=>AV.dB ⟨dp,8⟩ y.2))=true)<|ai ff<|ai (rN dp)<|ai tt<|ai (rN dp)<|ai (rN dp)<|ai ff<|ai tt<|bR h fun r4 ek5 h=>have ek5:=cO hk_k0 (FB (dp+1) (boxes dp [(8,(bN y2))] (aF hp k0 [(I v0_k0_0)])) k0 (eK hk_k0) (dw (cu hk_k0 (hz))) y2 a1 v0_k0_0 _ ek5);ai ek5<|ai (zm ek5 (by kernel_rfl) (by kernel_rfl))<|ai (zn ek5 (cu hk_k0 (hz)))<|bI h (fun h6 h=>bY (an not h6)<|ai (rN dp)<|bY (an not h6)<|aJ h fun w7 h=>ai w7<|bY (an not h6)<|ai ff<|ai tt<|bR h fun r8 ek9 h=>have ek9:=cO hk_k0 (hR.f_scope_Walk__scope_few_1 (dp+1) (boxes dp [(8,(bN y2))] (aF hp k0 [(I r4.2)])) k0 (eK hk_k0) (dw (cu hk_k0 (hz))) y2.Then (a1+1) r4.2 _ ek9);ai ek9<|ai (zm ek9 (by kernel_rfl) (by kernel_rfl))<|ai (zn ek9 (cu hk_k0 (hz)))<|jy (an not h6)<|bI h (fun h10 h=>bY (an not h10)<|ai (rN dp)<|bY (an not h10)<|ai w7<|bY (an not h10)<|ai ff<|ai tt<|bR h fun r11 ek12 h=>have ek12:=cO hk_k0 (hR.f_scope_Walk__scope_few_1 (dp+1) (boxes dp [(8,(bN y2))] (aF hp k0 [(I r8.2)])) k0 (eK hk_k0) (dw (cu hk_k0 (hz))) y2.Else (a1+1) r8.2 _ ek12);ai ek12<|ai (zm ek12 (by kernel_rfl) (by kernel_rfl))<|ai (zn ek12 (cu hk_k0 (hz)))<|jy (an not h10)<|bI h (fun h13 h=>ai (an not h13)<|aJ h fun w14 h=>ai w14<|L h) (fun h13 h=>ai (an not h13)<|L h)) (fun h10 h=>bY (an not h10)<|bY (an not h10)<|bY (an not h10)<|jy (an not h10)<|ai tt<|L h)) (fun h6 h=>bY (an not h6)<|bY (an not h6)<|bY (an not h6)<|jy (an not h6)<|nu<|nu<|nu<|ai ht<|bq<|L h)) (fun h1 h=>ai (aw h1)<|L h)
def ie:Option (Bool×Int):=
 (lp (fun v=>gN R a0 a1 v.1 v.2) (0,c0)).bind fun (x1:(Int⊕(Nat×Bool×Int)))=>match x1 with
 | .inl ya_2=>
  some (false,ya_2)
 | .inr yb_2=>
  some (true,yb_2.2.2)
theorem uC(hR:kE R)(dp:Nat)(hp:HP)(k0:Key)(hk_k0:k0.dp<dp)(hz:cF dp hp)(a0:(List Stmt))(a1:Int)(c0:Int)(r:(Bool×Int))(h:ie R a0 a1 c0=some r):lk dp hp k0 a0 a1 c0 r:=
 aX aaR (ao (.i (a0.length:Int))<|.or (.ex fun (ya_2:Int)=>ao (.bX (jX dp hp k0 a0 a1 (.inl ya_2)))<|.nil) (.ex fun (yb_2:(Nat×Bool×Int))=>ao (.bX (jX dp hp k0 a0 a1 (.inr yb_2)))<|.nil)) fun L=>ai (aC aV a0)<|dy h (dZ (fun v=>ve R hR dp hp k0 hk_k0 hz a0 a1 v.1 v.2) (0,c0)) (fun ya_2 h=>L h) (fun yb_2 h=>L h)
def eh:Nat→ll
 | 0=>⟨fun z0 z1 z2=>none⟩
 | n+1=>⟨ie (eh n)⟩
theorem o0:∀ n,kE (eh n)
 | 0=>⟨fun _ _ _ _ _ _ _ _ r h=>(by cases h)⟩
 | n+1=>⟨fun dp hp k0 hk_k0 hz a0 a1 c0 r h=>uC _ (o0 n) dp hp k0 hk_k0 hz a0 a1 c0 r h⟩
def iC:Option (Bool×Int):=ev fun n=>(eh n).f_scope_Walk__scope_few_1 a0 a1 c0
theorem n6(hk_k0:k0.dp<dp)(hz:cF dp hp)(a0:(List Stmt))(a1:Int)(c0:Int)(r:(Bool×Int))(h:iC a0 a1 c0=some r):lk dp hp k0 a0 a1 c0 r:=by
 obtain ⟨n,hn⟩:=uR h
 exact (o0 n).f_scope_Walk__scope_few_1 dp hp k0 hk_k0 hz a0 a1 c0 r hn
end
section
variable (a0:Program)(v0_11:Nat)(v0_3_0:Int)
def sJ:Option ((Nat×Int)⊕(Unit⊕(Nat×Bool×Int))):=
 if (v0_11:Int)<(a0.Funcs.length:Int) then
  (a0.Funcs[v0_11]?).bind fun (y2:Func)=>
  (iC y2.Body 1 v0_3_0).bind fun (r4:(Bool×Int))=>
  if r4.1=true then
   if IntKind.i64.wrap ((v0_11:Int)+1)=((v0_11+1:Nat):Int) then
    some (.inl (v0_11+1,r4.2))
   else none
  else
   some (.inr (.inl ()))
 else
  some (.inr (.inr (v0_11,decide ((v0_11:Int)<(a0.Funcs.length:Int)),v0_3_0)))
abbrev Kh(v:(Nat×Int)):St:=⟨[(1,(.p ⟨0,1⟩ 0)),(4,(.f 136 [(.p ⟨0,3⟩ 0)])),(9,(.l 101 (a0.Funcs.map cA))),(10,(I (a0.Funcs.length:Int))),(11,(I (v.1:Int)))],[(1,(ar a0)),(3,[(I v.2)])],H0⟩
abbrev wK(x:(Unit⊕(Nat×Bool×Int))):aI×St:=match x with | .inl ()=>(.ret,⟨[(2,(.b false))],[],H0⟩) | .inr (z1,z2,z3)=>((.ex 0),⟨[(1,(.p ⟨0,1⟩ 0)),(4,(.f 136 [(.p ⟨0,3⟩ 0)])),(9,(.l 101 (a0.Funcs.map cA))),(10,(I (a0.Funcs.length:Int))),(11,(I (z1:Int))),(12,(.b z2))],[(1,(ar a0)),(3,[(I z3)])],H0⟩)
theorem IQ(o:(Nat×Int)⊕(Unit⊕(Nat×Bool×Int)))(h:sJ a0 v0_11 v0_3_0=some o):bz E0 Vz (Kh a0) (wK a0) (v0_11,v0_3_0) o:=
 bG (.or (bt<|ao (.n v0_11)<|.ex fun (y2:Func)=>ao (.v (.a (dD y2)))<|iu<|.ex fun (r4:(Bool×Int))=>ao (.v (.b r4.1))<|ao (.h (boxes 0 [(1,(ar a0)),(3,[(I r4.2)]),(6,(dD y2))] H0))<|ao (.bx [(1,(ar a0)),(3,[(I r4.2)]),(6,(dD y2))])<|ao (.h (H0))<|.or (bf<|ao (.i ((v0_11+1:Nat):Int))<|.nil) (bt<|.nil)) (bf<|.nil)) fun L=>bP h (fun h1 h=>ai (av h1)<|ai (rI v0_11)<|bR h fun y2 h3 h=>ai (aD cA h3)<|ai tt<|ai ff<|fB<|kD<|ai ff<|ai tt<|bR h fun r4 ek5 h=>have ek5:call G Ω0 ⟨0+1,false⟩ 137 [(.l 92 (y2.Body.map aV)),(I 1),(.f 136 [(.p ⟨0,3⟩ 0)])] (boxes 0 [(1,(ar a0)),(3,[(I v0_3_0)]),(6,(dD y2))] H0)=some (.ret (.b r4.1),boxes 0 [(1,(ar a0)),(3,[(I r4.2)]),(6,(dD y2))] H0):=pa (gE (bx1:=[(1,(ar a0)),(3,[(I v0_3_0)]),(6,(dD y2))]) (by kernel_rfl) (by kernel_rfl)) (gE (bx1:=[(1,(ar a0)),(3,[(I r4.2)]),(6,(dD y2))]) (by kernel_rfl) (by kernel_rfl)) (n6 (0+1) (boxes 0 [(1,(ar a0)),(3,[(I v0_3_0)]),(6,(dD y2))] H0) ⟨0,3⟩ (nm 0) (dw (iN 0)) y2.Body 1 v0_3_0 _ ek5);ai ek5<|ai (zm ek5 (by kernel_rfl) (by kernel_rfl))<|ai (zn ek5 (iN 0))<|bI h (fun h6 h=>ai (an not h6)<|aJ h fun w7 h=>ai w7<|L h) (fun h6 h=>ai (an not h6)<|L h)) (fun h1 h=>ai (aw h1)<|L h)
abbrev Ns(a0:Program)(r:Bool):bm×HP:=(.ret (.b r),H0)
def vA:Option Bool:=
 (lp (fun v=>sJ a0 v.1 v.2) (0,0)).bind fun (x1:(Unit⊕(Nat×Bool×Int)))=>match x1 with
 | .inl ya_2=>
  some false
 | .inr yb_2=>
  (iC a0.Main 1 yb_2.2.2).bind fun (r4:(Bool×Int))=>
  some r4.1
theorem IS(r:Bool)(h:vA a0=some r):call G Ω0 E0 93 [(.a (ar a0))] H0=some (Ns a0 r):=
 aX G93 (iu<|ao (.i (a0.Funcs.length:Int))<|.or (.ex fun (ya_2:Unit)=>ao (.bX (wK a0 (.inl ya_2)))<|.nil) (.ex fun (yb_2:(Nat×Bool×Int))=>ao (.bX (wK a0 (.inr yb_2)))<|bt<|.ex fun (r4:(Bool×Int))=>ao (.v (.b r4.1))<|ao (.h (boxes 0 [(1,(ar a0)),(3,[(I r4.2)])] H0))<|ao (.bx [(1,(ar a0)),(3,[(I r4.2)])])<|ao (.h (H0))<|.nil)) fun L=>bq<|ai ff<|fB<|kD<|ai (aC cA a0.Funcs)<|dy h (dZ (fun v=>IQ a0 v.1 v.2) (0,0)) (fun ya_2 h=>L h) (fun yb_2 h=>ai (rfl:Z0)<|ai ff<|ai tt<|bR h fun r4 ek5 h=>have ek5:call G Ω0 ⟨0+1,false⟩ 137 [(.l 92 (a0.Main.map aV)),(I 1),(.f 136 [(.p ⟨0,3⟩ 0)])] (boxes 0 [(1,(ar a0)),(3,[(I yb_2.2.2)])] H0)=some (.ret (.b r4.1),boxes 0 [(1,(ar a0)),(3,[(I r4.2)])] H0):=pa (gE (bx1:=[(1,(ar a0)),(3,[(I yb_2.2.2)])]) (by kernel_rfl) (by kernel_rfl)) (gE (bx1:=[(1,(ar a0)),(3,[(I r4.2)])]) (by kernel_rfl) (by kernel_rfl)) (n6 (0+1) (boxes 0 [(1,(ar a0)),(3,[(I yb_2.2.2)])] H0) ⟨0,3⟩ (nm 0) (dw (iN 0)) a0.Main 1 yb_2.2.2 _ ek5);ai ek5<|ai (zm ek5 (by kernel_rfl) (by kernel_rfl))<|ai (zn ek5 (iN 0))<|L h)
end
section
variable (a0:(List Int))(a1:Int)(v0_8:Nat)
def lq:Option (Nat⊕(Nat⊕(Nat×Bool))):=
 if (v0_8:Int)<(a0.length:Int) then
  (a0[v0_8]?).bind fun (y2:Int)=>
  if (a1==y2)=true then
   some (.inr (.inl v0_8))
  else
   if IntKind.i64.wrap ((v0_8:Int)+1)=((v0_8+1:Nat):Int) then
    some (.inl (v0_8+1))
   else none
 else
  some (.inr (.inr (v0_8,decide ((v0_8:Int)<(a0.length:Int)))))
abbrev Bx(v:Nat):St:=⟨[(0,(.l 3 (a0.map (I)))),(1,(I a1)),(7,(I (a0.length:Int))),(8,(I (v:Int)))],[],H0⟩
abbrev oL(x:(Nat⊕(Nat×Bool))):aI×St:=match x with | .inl z1=>(.ret,⟨[(4,(I (z1:Int)))],[],H0⟩) | .inr (z1,z2)=>((.ex 0),⟨[(0,(.l 3 (a0.map (I)))),(1,(I a1)),(7,(I (a0.length:Int))),(8,(I (z1:Int))),(9,(.b z2))],[],H0⟩)
theorem Ay(o:Nat⊕(Nat⊕(Nat×Bool)))(h:lq a0 a1 v0_8=some o):bz E0 QQ (Bx a0 a1) (oL a0 a1) v0_8 o:=
 bG (.or (bt<|ao (.n v0_8)<|xI fun y2=>oN (ao (.i ((v0_8+1:Nat):Int))<|.nil)) (bf<|.nil)) fun L=>bP h (fun h1 h=>ai (av h1)<|ai (rI v0_8)<|bR h fun y2 h3 h=>ai (aD (I) h3)<|bI h (fun h4 h=>ai h4<|L h) (fun h4 h=>ai h4<|aJ h fun w5 h=>ai w5<|L h)) (fun h1 h=>ai (aw h1)<|L h)
abbrev Df(a0:(List Int))(a1:Int)(r:Int):bm×HP:=(.ret (I r),H0)
def qG:Option Int:=
 (lp (fun v=>lq a0 a1 v) 0).bind fun (x1:(Nat⊕(Nat×Bool)))=>match x1 with
 | .inl ya_2=>
  some (ya_2:Int)
 | .inr yb_2=>
  some (-1)
theorem Az(r:Int)(h:qG a0 a1=some r):call G Ω0 E0 157 [(.l 3 (a0.map (I))),(I a1)] H0=some (Df a0 a1 r):=
 aX ajT (ao (.i (a0.length:Int))<|.or (.ex fun (ya_2:Nat)=>ao (.bX (oL a0 a1 (.inl ya_2)))<|.nil) (.ex fun (yb_2:(Nat×Bool))=>ao (.bX (oL a0 a1 (.inr yb_2)))<|.nil)) fun L=>ai (aC (I) a0)<|dy h (dZ (Ay a0 a1) 0) (fun ya_2 h=>L h) (fun yb_2 h=>L h)
abbrev AA(a0:(List Int))(a1:Int)(r:Bool):bm×HP:=(.ret (.b r),H0)
def kl:Option Bool:=
 (qG a0 a1).bind fun (r1:Int)=>
 some (decide (0≤r1))
theorem yd(r:Bool)(h:kl a0 a1=some r):call G Ω0 E0 138 [(.l 3 (a0.map (I))),(I a1)] H0=some (AA a0 a1 r):=
 aX ajK (xI fun r1=>.nil) fun L=>aW h (Az a0 a1) fun r1 h=>L h
end
section
variable (dp:Nat)(hp:HP)(k0:Key)(a0:Stmt)
abbrev yH(dp:Nat)(hp:HP)(k0:Key)(k1:Key)(k2:Key)(a0:Stmt)(a1:Int)(c0:Unit)(c1:Checker)(c2:Int)(r:(Bool×Unit×Int)):bm×HP:=(.ret (.b r.1),aF (aF (aF hp k0 [(.p k1 0)]) k1 (bj c1)) k2 [(I r.2.2)])
def ml(a1:Int)(c0:Unit)(c1:Checker)(c2:Int):Option (Bool×Unit×Int):=
 (fU c1 a0).bind fun (r1:Int)=>
 some ((r1==0),(),r1)
theorem wL(hk_k0:k0.dp<dp)(k1:Key)(hk_k1:k1.dp<dp)(k2:Key)(hk_k2:k2.dp<dp)(hn_k0_k1:k0≠k1)(hn_k0_k2:k0≠k2)(hn_k1_k2:k1≠k2)(hz:cF dp hp)(a0:Stmt)(a1:Int)(c0:Unit)(c1:Checker)(c2:Int)(r:(Bool×Unit×Int))(h:ml a0 a1 c0 c1 c2=some r):call G Ω0 ⟨dp,false⟩ 139 [(.a (bN a0)),(I a1),(.p k0 0),(.p k2 0)] (aF (aF (aF hp k0 [(.p k1 0)]) k1 (bj c1)) k2 [(I c2)])=some (yH dp hp k0 k1 k2 a0 a1 c0 c1 c2 r):=
 aX ajL (bf<|ao (.l [(.p k1 0)])<|bt<|xI fun r1=>ao (.h (boxes dp [(4,(bN a0))] (aF (aF (aF hp k0 [(.p k1 0)]) k1 (bj c1)) k2 [(I c2)])))<|bf<|ao (.l [(I c2)])<|bf<|ao (.h (aF (aF (aF hp k0 [(.p k1 0)]) k1 (bj c1)) k2 [(I r1)]))<|bf<|ao (.l [(I r1)])<|.nil) fun L=>ai ((by simp [bN,AV.cC,AV.dB,AV.deep,AV.ee,cP hk_k0,fx hk_k0,cP hk_k1,fx hk_k1,cP hk_k2,fx hk_k2]):(((.a (bN a0)):AV).deep dp&&(([(0,(.a (bN a0))),(1,(I a1)),(2,(.p k0 0)),(3,(.p k2 0))]:List (Nat×AV)).all (fun y=>y.2.cC ⟨dp,4⟩)&&([]:List (Nat×List AV)).all (fun y=>AV.dB ⟨dp,4⟩ y.2)))=true)<|ai (cT hk_k0)<|ai (aj5 hn_k0_k1 hn_k0_k2:(aF (aF (aF hp k0 [(.p k1 0)]) k1 (bj c1)) k2 [(I c2)]) k0=some [(.p k1 0)])<|ai (rN dp)<|ai tt<|bR h fun r1 ek2 h=>have ek2:call G Ω0 ⟨dp+1,true⟩ 140 [(.p k1 0),(.a (bN a0))] (boxes dp [(4,(bN a0))] (aF (aF (aF hp k0 [(.p k1 0)]) k1 (bj c1)) k2 [(I c2)]))=some (.ret (I r1),boxes dp [(4,(bN a0))] (aF (aF (aF hp k0 [(.p k1 0)]) k1 (bj c1)) k2 [(I c2)])):=pa (oF (hp1:=aF (aF (aF hp k0 [(.p k1 0)]) k1 (bj c1)) k2 [(I c2)]) (cT hk_k1) (xO (p8 hn_k1_k2) (nW ..))) (oF (hp1:=aF (aF (aF hp k0 [(.p k1 0)]) k1 (bj c1)) k2 [(I c2)]) (cT hk_k1) (xO (p8 hn_k1_k2) (nW ..))) (yG (dp+1) (boxes dp [(4,(bN a0))] (aF (aF (aF hp k0 [(.p k1 0)]) k1 (bj c1)) k2 [(I c2)])) k1 (eK hk_k1) (dw (cu hk_k2 (cu hk_k1 (cu hk_k0 (hz))))) c1 a0 _ ek2);ai ek2<|ai ff<|ai (cT hk_k2)<|ai (eX (aF (aF hp k0 [(.p k1 0)]) k1 (bj c1)) k2 [(I c2)])<|ai tt<|ai (cT hk_k2)<|ai (nW (aF (aF hp k0 [(.p k1 0)]) k1 (bj c1)) k2 [(I c2)] [(I r1)])<|ai (cT hk_k2)<|ai (eX (aF (aF hp k0 [(.p k1 0)]) k1 (bj c1)) k2 [(I r1)])<|L h
end
section
variable (dp:Nat)(hp:HP)(k0:Key)(k1:Key)(k2:Key)(a0:(List Stmt))(a1:Int)(c0:Unit)(c1:Checker)(c2:Int)
abbrev ry(dp:Nat)(hp:HP)(k0:Key)(k1:Key)(k2:Key)(a0:(List Stmt))(a1:Int)(c0:Unit)(c1:Checker)(c2:Int)(r:(Bool×Unit×Int)):bm×HP:=(.ret (.b r.1),aF (aF (aF hp k0 [(.p k1 0)]) k1 (bj c1)) k2 [(I r.2.2)])
abbrev fX(r:(Bool×Unit×Int)):Prop:=call G Ω0 ⟨dp,false⟩ 137 [(.l 92 (a0.map aV)),(I a1),(.f 139 [(.p k0 0),(.p k2 0)])] (aF (aF (aF hp k0 [(.p k1 0)]) k1 (bj c1)) k2 [(I c2)])=some (ry dp hp k0 k1 k2 a0 a1 c0 c1 c2 r)
end
structure fY where
 f_scope_Walk__scope_checker_stmts_1:(List Stmt)→Int→Unit→Checker→Int→Option (Bool×Unit×Int)
structure fH(R:fY):Prop where
 f_scope_Walk__scope_checker_stmts_1:∀ (dp:Nat)(hp:HP)(k0:Key)(hk_k0:k0.dp<dp)(k1:Key)(hk_k1:k1.dp<dp)(k2:Key)(hk_k2:k2.dp<dp)(hn_k0_k1:k0≠k1)(hn_k0_k2:k0≠k2)(hn_k1_k2:k1≠k2)(hz:cF dp hp)(a0:(List Stmt))(a1:Int)(c0:Unit)(c1:Checker)(c2:Int)(r:(Bool×Unit×Int)),R.f_scope_Walk__scope_checker_stmts_1 a0 a1 c0 c1 c2=some r→fX dp hp k0 k1 k2 a0 a1 c0 c1 c2 r
section
variable (R:fY)(a0:(List Stmt))(a1:Int)(c1:Checker)(v0_11:Nat)(dp:Nat)(hp:HP)(k0:Key)(c0:Unit)
def dP(v0_k2_0:Int):Option ((Nat×Int)⊕(Int⊕(Nat×Bool×Int))):=
 if (v0_11:Int)<(a0.length:Int) then
  (a0[v0_11]?).bind fun (y2:Stmt)=>
  (ml y2 a1 () c1 v0_k2_0).bind fun (r4:(Bool×Unit×Int))=>
  if r4.1=true then
   if IntKind.i64.wrap (a1+1)=a1+1 then
    (R.f_scope_Walk__scope_checker_stmts_1 y2.Then (a1+1) () c1 r4.2.2).bind fun (r8:(Bool×Unit×Int))=>
    if r8.1=true then
     (R.f_scope_Walk__scope_checker_stmts_1 y2.Else (a1+1) () c1 r8.2.2).bind fun (r11:(Bool×Unit×Int))=>
     if r11.1=true then
      if IntKind.i64.wrap ((v0_11:Int)+1)=((v0_11+1:Nat):Int) then
       some (.inl (v0_11+1,r11.2.2))
      else none
     else
      some (.inr (.inl r11.2.2))
    else
     some (.inr (.inl r8.2.2))
   else none
  else
   some (.inr (.inl r4.2.2))
 else
  some (.inr (.inr (v0_11,decide ((v0_11:Int)<(a0.length:Int)),v0_k2_0)))
abbrev pY(dp:Nat)(hp:HP)(k0:Key)(k1:Key)(k2:Key)(a0:(List Stmt))(a1:Int)(c1:Checker)(v:(Nat×Int)):St:=⟨[(1,(I a1)),(2,(.f 139 [(.p k0 0),(.p k2 0)])),(9,(.l 92 (a0.map aV))),(10,(I (a0.length:Int))),(11,(I (v.1:Int)))],[],aF (aF (aF hp k0 [(.p k1 0)]) k1 (bj c1)) k2 [(I v.2)]⟩
abbrev fp(dp:Nat)(hp:HP)(k0:Key)(k1:Key)(k2:Key)(a0:(List Stmt))(a1:Int)(c1:Checker)(x:(Int⊕(Nat×Bool×Int))):aI×St:=match x with | .inl z1=>(.ret,⟨[(6,(.b false))],[],aF (aF (aF hp k0 [(.p k1 0)]) k1 (bj c1)) k2 [(I z1)]⟩) | .inr (z1,z2,z3)=>((.ex 0),⟨[(1,(I a1)),(2,(.f 139 [(.p k0 0),(.p k2 0)])),(9,(.l 92 (a0.map aV))),(10,(I (a0.length:Int))),(11,(I (z1:Int))),(12,(.b z2))],[],aF (aF (aF hp k0 [(.p k1 0)]) k1 (bj c1)) k2 [(I z3)]⟩)
theorem pg(hR:fH R)(dp:Nat)(hp:HP)(k0:Key)(hk_k0:k0.dp<dp)(k1:Key)(hk_k1:k1.dp<dp)(k2:Key)(hk_k2:k2.dp<dp)(hn_k0_k1:k0≠k1)(hn_k0_k2:k0≠k2)(hn_k1_k2:k1≠k2)(hz:cF dp hp)(a0:(List Stmt))(a1:Int)(c1:Checker)(v0_11:Nat)(v0_k2_0:Int)(o:(Nat×Int)⊕(Int⊕(Nat×Bool×Int)))(h:dP R a0 a1 c1 v0_11 v0_k2_0=some o):bz ⟨dp,false⟩ Lf (pY dp hp k0 k1 k2 a0 a1 c1) (fp dp hp k0 k1 k2 a0 a1 c1) (v0_11,v0_k2_0) o:=
 bG (.or (bt<|ao (.n v0_11)<|.ex fun (y2:Stmt)=>ao (.v (.a (bN y2)))<|iu<|.ex fun (r4:(Bool×Unit×Int))=>ao (.v (.b r4.1))<|ao (.h (boxes dp [(8,(bN y2))] (aF (aF (aF hp k0 [(.p k1 0)]) k1 (bj c1)) k2 [(I r4.2.2)])))<|ao (.bx [(8,(bN y2))])<|ao (.h (aF (aF (aF hp k0 [(.p k1 0)]) k1 (bj c1)) k2 [(I r4.2.2)]))<|.or (uF<|ao (.i (a1+1))<|en<|.ex fun (r8:(Bool×Unit×Int))=>ao (.v (.b r8.1))<|ao (.h (boxes dp [(8,(bN y2))] (aF (aF (aF hp k0 [(.p k1 0)]) k1 (bj c1)) k2 [(I r8.2.2)])))<|ao (.bx [(8,(bN y2))])<|ao (.h (aF (aF (aF hp k0 [(.p k1 0)]) k1 (bj c1)) k2 [(I r8.2.2)]))<|wW<|.or (uF<|ao (.i (a1+1))<|en<|.ex fun (r11:(Bool×Unit×Int))=>ao (.v (.b r11.1))<|ao (.h (boxes dp [(8,(bN y2))] (aF (aF (aF hp k0 [(.p k1 0)]) k1 (bj c1)) k2 [(I r11.2.2)])))<|ao (.bx [(8,(bN y2))])<|ao (.h (aF (aF (aF hp k0 [(.p k1 0)]) k1 (bj c1)) k2 [(I r11.2.2)]))<|wW<|.or (bf<|ao (.i ((v0_11+1:Nat):Int))<|.nil) (bt<|.nil)) (abf<|.nil)) (abg<|.nil)) (bf<|.nil)) fun L=>bP h (fun h1 h=>ai (av h1)<|ai (rI v0_11)<|bR h fun y2 h3 h=>ai (oE aV h3 (ij _))<|ai ((by simp [bN,AV.cC,AV.dB,AV.deep,AV.ee,cP hk_k0,fx hk_k0,cP hk_k1,fx hk_k1,cP hk_k2,fx hk_k2]):(([(14,(.a (bN y2))),(13,(.e (.a (bN y2)) 0)),(1,(I a1)),(2,(.f 139 [(.p k0 0),(.p k2 0)])),(9,(.l 92 (a0.map aV))),(10,(I (a0.length:Int))),(11,(I (v0_11:Int)))]:List (Nat×AV)).all (fun y=>y.2.cC ⟨dp,8⟩)&&([]:List (Nat×List AV)).all (fun y=>AV.dB ⟨dp,8⟩ y.2))=true)<|ai ff<|ai (rN dp)<|ai tt<|ai (rN dp)<|ai (rN dp)<|ai ff<|ai tt<|bR h fun r4 ek5 h=>have ek5:=cO3 hk_k0 hk_k1 hk_k2 hn_k0_k1 hn_k0_k2 hn_k1_k2 (wL (dp+1) (boxes dp [(8,(bN y2))] (aF (aF (aF hp k0 [(.p k1 0)]) k1 (bj c1)) k2 [(I v0_k2_0)])) k0 (eK hk_k0) k1 (eK hk_k1) k2 (eK hk_k2) (hn_k0_k1) (hn_k0_k2) (hn_k1_k2) (dw (cu hk_k2 (cu hk_k1 (cu hk_k0 (hz))))) y2 a1 () c1 v0_k2_0 _ ek5);ai ek5<|ai (zm ek5 (by kernel_rfl) (by kernel_rfl))<|ai (zn ek5 (cu hk_k2 (cu hk_k1 (cu hk_k0 (hz)))))<|bI h (fun h6 h=>bY (an not h6)<|ai (rN dp)<|bY (an not h6)<|aJ h fun w7 h=>ai w7<|bY (an not h6)<|ai ff<|ai tt<|bR h fun r8 ek9 h=>have ek9:=cO3 hk_k0 hk_k1 hk_k2 hn_k0_k1 hn_k0_k2 hn_k1_k2 (hR.f_scope_Walk__scope_checker_stmts_1 (dp+1) (boxes dp [(8,(bN y2))] (aF (aF (aF hp k0 [(.p k1 0)]) k1 (bj c1)) k2 [(I r4.2.2)])) k0 (eK hk_k0) k1 (eK hk_k1) k2 (eK hk_k2) (hn_k0_k1) (hn_k0_k2) (hn_k1_k2) (dw (cu hk_k2 (cu hk_k1 (cu hk_k0 (hz))))) y2.Then (a1+1) () c1 r4.2.2 _ ek9);ai ek9<|ai (zm ek9 (by kernel_rfl) (by kernel_rfl))<|ai (zn ek9 (cu hk_k2 (cu hk_k1 (cu hk_k0 (hz)))))<|jy (an not h6)<|bI h (fun h10 h=>bY (an not h10)<|ai (rN dp)<|bY (an not h10)<|ai w7<|bY (an not h10)<|ai ff<|ai tt<|bR h fun r11 ek12 h=>have ek12:=cO3 hk_k0 hk_k1 hk_k2 hn_k0_k1 hn_k0_k2 hn_k1_k2 (hR.f_scope_Walk__scope_checker_stmts_1 (dp+1) (boxes dp [(8,(bN y2))] (aF (aF (aF hp k0 [(.p k1 0)]) k1 (bj c1)) k2 [(I r8.2.2)])) k0 (eK hk_k0) k1 (eK hk_k1) k2 (eK hk_k2) (hn_k0_k1) (hn_k0_k2) (hn_k1_k2) (dw (cu hk_k2 (cu hk_k1 (cu hk_k0 (hz))))) y2.Else (a1+1) () c1 r8.2.2 _ ek12);ai ek12<|ai (zm ek12 (by kernel_rfl) (by kernel_rfl))<|ai (zn ek12 (cu hk_k2 (cu hk_k1 (cu hk_k0 (hz)))))<|jy (an not h10)<|bI h (fun h13 h=>ai (an not h13)<|aJ h fun w14 h=>ai w14<|L h) (fun h13 h=>ai (an not h13)<|L h)) (fun h10 h=>bY (an not h10)<|bY (an not h10)<|bY (an not h10)<|jy (an not h10)<|ai tt<|L h)) (fun h6 h=>bY (an not h6)<|bY (an not h6)<|bY (an not h6)<|jy (an not h6)<|nu<|nu<|nu<|ai ht<|bq<|L h)) (fun h1 h=>ai (aw h1)<|L h)
def dV(c0:Unit)(c1:Checker)(c2:Int):Option (Bool×Unit×Int):=
 (lp (fun v=>dP R a0 a1 c1 v.1 v.2) (0,c2)).bind fun (x1:(Int⊕(Nat×Bool×Int)))=>match x1 with
 | .inl ya_2=>
  some (false,(),ya_2)
 | .inr yb_2=>
  some (true,(),yb_2.2.2)
theorem o5(hR:fH R)(dp:Nat)(hp:HP)(k0:Key)(hk_k0:k0.dp<dp)(k1:Key)(hk_k1:k1.dp<dp)(k2:Key)(hk_k2:k2.dp<dp)(hn_k0_k1:k0≠k1)(hn_k0_k2:k0≠k2)(hn_k1_k2:k1≠k2)(hz:cF dp hp)(a0:(List Stmt))(a1:Int)(c0:Unit)(c1:Checker)(c2:Int)(r:(Bool×Unit×Int))(h:dV R a0 a1 c0 c1 c2=some r):fX dp hp k0 k1 k2 a0 a1 c0 c1 c2 r:=
 aX aaR (ao (.i (a0.length:Int))<|.or (.ex fun (ya_2:Int)=>ao (.bX (fp dp hp k0 k1 k2 a0 a1 c1 (.inl ya_2)))<|.nil) (.ex fun (yb_2:(Nat×Bool×Int))=>ao (.bX (fp dp hp k0 k1 k2 a0 a1 c1 (.inr yb_2)))<|.nil)) fun L=>ai (aC aV a0)<|dy h (dZ (fun v=>pg R hR dp hp k0 hk_k0 k1 hk_k1 k2 hk_k2 hn_k0_k1 hn_k0_k2 hn_k1_k2 hz a0 a1 c1 v.1 v.2) (0,c2)) (fun ya_2 h=>L h) (fun yb_2 h=>L h)
def cQ:Nat→fY
 | 0=>⟨fun z0 z1 z2 z3 z4=>none⟩
 | n+1=>⟨dV (cQ n)⟩
theorem jY:∀ n,fH (cQ n)
 | 0=>⟨fun _ _ _ _ _ _ _ _ _ _ _ _ _ _ _ _ _ r h=>(by cases h)⟩
 | n+1=>⟨fun dp hp k0 hk_k0 k1 hk_k1 k2 hk_k2 hn_k0_k1 hn_k0_k2 hn_k1_k2 hz a0 a1 c0 c1 c2 r h=>o5 _ (jY n) dp hp k0 hk_k0 k1 hk_k1 k2 hk_k2 hn_k0_k1 hn_k0_k2 hn_k1_k2 hz a0 a1 c0 c1 c2 r h⟩
def fZ(c1:Checker)(c2:Int):Option (Bool×Unit×Int):=ev fun n=>(cQ n).f_scope_Walk__scope_checker_stmts_1 a0 a1 c0 c1 c2
theorem ph(hk_k0:k0.dp<dp)(k1:Key)(hk_k1:k1.dp<dp)(k2:Key)(hk_k2:k2.dp<dp)(hn_k0_k1:k0≠k1)(hn_k0_k2:k0≠k2)(hn_k1_k2:k1≠k2)(hz:cF dp hp)(a0:(List Stmt))(a1:Int)(c0:Unit)(c1:Checker)(c2:Int)(r:(Bool×Unit×Int))(h:fZ a0 a1 c0 c1 c2=some r):fX dp hp k0 k1 k2 a0 a1 c0 c1 c2 r:=by
 obtain ⟨n,hn⟩:=uR h
 exact (jY n).f_scope_Walk__scope_checker_stmts_1 dp hp k0 hk_k0 k1 hk_k1 k2 hk_k2 hn_k0_k1 hn_k0_k2 hn_k1_k2 hz a0 a1 c0 c1 c2 r hn
end
section
variable (dp:Nat)(hp:HP)(k0:Key)(c0:Checker)(a0:(List Stmt))
abbrev AB(dp:Nat)(hp:HP)(k0:Key)(c0:Checker)(a0:(List Stmt))(r:Int):bm×HP:=(.ret (I r),aF hp k0 (bj c0))
def iw:Option Int:=
 (fZ a0 1 () c0 0).bind fun (r1:(Bool×Unit×Int))=>
 some r1.2.2
theorem qH(hk_k0:k0.dp<dp)(hz:cF dp hp)(c0:Checker)(a0:(List Stmt))(r:Int)(h:iw c0 a0=some r):call G Ω0 ⟨dp,false⟩ 95 [(.p k0 0),(.l 92 (a0.map aV))] (aF hp k0 (bj c0))=some (AB dp hp k0 c0 a0 r):=
 aX G95 (en<|.ex fun (r1:(Bool×Unit×Int))=>ao (.v (.b r1.1))<|ao (.h (boxes dp [(2,[(.p k0 0)]),(5,[(I r1.2.2)])] (aF hp k0 (bj c0))))<|ao (.bx [(2,[(.p k0 0)]),(5,[(I r1.2.2)])])<|ao (.h (aF hp k0 (bj c0)))<|bt<|.nil) fun L=>ai ((by simp [AV.cC,AV.dB,AV.deep,AV.ee,cP hk_k0,fx hk_k0]):(((.p k0 0):AV).deep dp&&(([(0,(.p k0 0)),(1,(.l 92 (a0.map aV)))]:List (Nat×AV)).all (fun y=>y.2.cC ⟨dp,2⟩)&&([]:List (Nat×List AV)).all (fun y=>AV.dB ⟨dp,2⟩ y.2)))=true)<|ai ((by simp [AV.cC,AV.dB,AV.deep,AV.ee,cP hk_k0,fx hk_k0]):(([(1,(.l 92 (a0.map aV))),(2,(.p ⟨dp,2⟩ 0))]:List (Nat×AV)).all (fun y=>y.2.cC ⟨dp,5⟩)&&([(2,[(.p k0 0)])]:List (Nat×List AV)).all (fun y=>AV.dB ⟨dp,5⟩ y.2))=true)<|ai ff<|ai (rN dp)<|ai tt<|ai (rN dp)<|ai ff<|ai ((by simp [AV.deep,AV.ee,fx hk_k0]):([(2,[(.p k0 0)]),(5,[(I 0)])]:List (Nat×List AV)).all (fun y=>AV.ee dp y.2)=true)<|bR h fun r1 ek2 h=>have ek2:call G Ω0 ⟨dp+1,false⟩ 137 [(.l 92 (a0.map aV)),(I 1),(.f 139 [(.p ⟨dp,2⟩ 0),(.p ⟨dp,5⟩ 0)])] (boxes dp [(2,[(.p k0 0)]),(5,[(I 0)])] (aF hp k0 (bj c0)))=some (.ret (.b r1.1),boxes dp [(2,[(.p k0 0)]),(5,[(I r1.2.2)])] (aF hp k0 (bj c0))):=pa (uQ (uQ (gE (bx1:=[(2,[(.p k0 0)]),(5,[(I 0)])]) (by kernel_rfl) (by kernel_rfl)) (oF (hp1:=aF hp k0 (bj c0)) (cT hk_k0) (nW ..))) (gE (bx1:=[(2,[(.p k0 0)]),(5,[(I 0)])]) (by kernel_rfl) (by kernel_rfl))) (uQ (uQ (gE (bx1:=[(2,[(.p k0 0)]),(5,[(I 0)])]) (by kernel_rfl) (by kernel_rfl)) (oF (hp1:=aF hp k0 (bj c0)) (cT hk_k0) (nW ..))) (gE (bx1:=[(2,[(.p k0 0)]),(5,[(I r1.2.2)])]) (by kernel_rfl) (by kernel_rfl))) (ph (dp+1) (boxes dp [(2,[(.p k0 0)]),(5,[(I 0)])] (aF hp k0 (bj c0))) ⟨dp,2⟩ (nm dp) k0 (eK hk_k0) ⟨dp,5⟩ (nm dp) (N0 hk_k0) (aa8 (by decide)) (cP hk_k0) (dw (cu hk_k0 (hz))) a0 1 () c0 0 _ ek2);ai ek2<|ai (zm ek2 (by kernel_rfl) (by kernel_rfl))<|ai (zn ek2 (cu hk_k0 (hz)))<|ai (rN dp)<|L h
end
section
variable (c0:Checker)(a0:Func)(v0_15:Nat)(dp:Nat)(hp:HP)(k0:Key)
def lr:Option (Nat⊕(Unit⊕(Unit⊕(Nat×Bool)))):=
 if (v0_15:Int)<(a0.Params.length:Int) then
  (a0.Params[v0_15]?).bind fun (y3:Int)=>
  if y3<0 then
   some (.inr (.inl ()))
  else
   if (c0.p.Vars.length:Int)≤y3 then
    some (.inr (.inl ()))
   else
    if v0_15≤a0.Params.length then
     (kl ((a0.Params.take v0_15).drop 0) y3).bind fun (r8:Bool)=>
     if r8=true then
      some (.inr (.inr (.inl ())))
     else
      if IntKind.i64.wrap ((v0_15:Int)+1)=((v0_15+1:Nat):Int) then
       some (.inl (v0_15+1))
      else none
    else none
 else
  some (.inr (.inr (.inr (v0_15,decide ((v0_15:Int)<(a0.Params.length:Int))))))
abbrev By(c0:Checker)(a0:Func)(v:Nat):St:=⟨[(0,(.p k0 0)),(3,(.p ⟨dp,3⟩ 0)),(13,(.l 3 (a0.Params.map (I)))),(14,(I (a0.Params.length:Int))),(15,(I (v:Int)))],[(3,(dD a0))],aF hp k0 (bj c0)⟩
abbrev lu(c0:Checker)(a0:Func)(x:(Unit⊕(Unit⊕(Nat×Bool)))):aI×St:=match x with | .inl ()=>(.ret,⟨[(4,(I 5))],[],aF hp k0 (bj c0)⟩) | .inr (.inl ())=>(.ret,⟨[(4,(I 6))],[],aF hp k0 (bj c0)⟩) | .inr (.inr (z1,z2))=>((.ex 0),⟨[(0,(.p k0 0)),(3,(.p ⟨dp,3⟩ 0)),(13,(.l 3 (a0.Params.map (I)))),(14,(I (a0.Params.length:Int))),(15,(I (z1:Int))),(16,(.b z2))],[(3,(dD a0))],aF hp k0 (bj c0)⟩)
theorem AD(hk_k0:k0.dp<dp)(hz:cF dp hp)(c0:Checker)(a0:Func)(v0_15:Nat)(o:Nat⊕(Unit⊕(Unit⊕(Nat×Bool))))(h:lr c0 a0 v0_15=some o):bz ⟨dp,false⟩ VA (By dp hp k0 c0 a0) (lu dp hp k0 c0 a0) v0_15 o:=
 bG (.or (bt<|ao (.n v0_15)<|xI fun y3=>.or (bf<|bf<|bf<|bf<|bf<|bf<|bf<|bf<|bt<|bt<|.nil) (Q3<|ao (.l (bj c0))<|bt<|ao (.i (c0.p.Vars.length:Int))<|wW<|oN (bt<|ao (.n v0_15)<|ao (.l (((a0.Params.take v0_15).drop 0).map (I)))<|xB fun r8=>oN (ao (.i ((v0_15+1:Nat):Int))<|.nil)))) (bf<|.nil)) fun L=>bP h (fun h2 h=>ai (av h2)<|ai (rI v0_15)<|bR h fun y3 h4 h=>ai (aD (I) h4)<|bP h (fun h5 h=>bY (av h5)<|bY (av h5)<|bY (av h5)<|bY (av h5)<|ai (av h5)<|ai tt<|L h) (fun h5 h=>bY (aw h5)<|bY (aw h5)<|bY (aw h5)<|ai (cT hk_k0)<|ai (eX hp k0 (bj c0))<|ai (g0 (aw h5))<|ai (aC cJ c0.p.Vars)<|jy (aw h5)<|bP h (fun h6 h=>ai (av h6)<|L h) (fun h6 h=>ai (aw h6)<|ai (rN dp)<|ai (rI v0_15)<|ai ((by decide):3≠0)<|ai ((ir (I) (n:=1) (fun _=>rfl) a0.Params):(a0.Params.map (I)).all (fun e=>e.nc==1)=true)<|ai (ct _:0≤v0_15)<|aJ h fun h7 h=>ai ((by rw [dC];exact h7):v0_15≤(a0.Params.map (I)).length)<|ai (Ka (I) a0.Params 0 v0_15)<|aW h (yd ((a0.Params.take v0_15).drop 0) y3) fun r8 h=>bI h (fun h10 h=>ai h10<|L h) (fun h10 h=>ai h10<|aJ h fun w11 h=>ai w11<|L h)))) (fun h2 h=>ai (aw h2)<|L h)
abbrev Dg(dp:Nat)(hp:HP)(k0:Key)(c0:Checker)(a0:Func)(r:Int):bm×HP:=(.ret (I r),aF hp k0 (bj c0))
def mP:Option Int:=
 if 4<(a0.Params.length:Int) then
  some 2
 else
  (lp (fun v=>lr c0 a0 v) 0).bind fun (x2:(Unit⊕(Unit⊕(Nat×Bool))))=>match x2 with
  | .inl ya_3=>
   some 5
  | .inr (.inl yb_3)=>
   some 6
  | .inr (.inr yc_3)=>
   (iw c0 a0.Body).bind fun (r5:Int)=>
   if (r5 !=0)=true then
    some r5
   else
    (lW a0.Result (c0.p.Vars.length:Int)).bind fun (r8:Int)=>
    some r8
theorem AE(hk_k0:k0.dp<dp)(hz:cF dp hp)(c0:Checker)(a0:Func)(r:Int)(h:mP c0 a0=some r):call G Ω0 ⟨dp,false⟩ 94 [(.p k0 0),(.a (dD a0))] (aF hp k0 (bj c0))=some (Dg dp hp k0 c0 a0 r):=
 aX G94 (bt<|ao (.i (a0.Params.length:Int))<|oN (bt<|ao (.i (a0.Params.length:Int))<|.or (.ex fun (ya_3:Unit)=>ao (.bX (lu dp hp k0 c0 a0 (.inl ya_3)))<|.nil) (.or (.ex fun (yb_3:Unit)=>ao (.bX (lu dp hp k0 c0 a0 (.inr (.inl yb_3))))<|.nil) (.ex fun (yc_3:(Nat×Bool))=>ao (.bX (lu dp hp k0 c0 a0 (.inr (.inr yc_3))))<|bt<|xI fun r5=>ao (.h (boxes dp [(3,(dD a0))] (aF hp k0 (bj c0))))<|ao (.bx [(3,(dD a0))])<|ao (.h (aF hp k0 (bj c0)))<|oN (wW<|ao (.l (bj c0))<|ao (.i (c0.p.Vars.length:Int))<|xI fun r8=>.nil))))) fun L=>ai ((by simp [dD,AV.cC,AV.dB,AV.deep,AV.ee,cP hk_k0,fx hk_k0]):(((.a (dD a0)):AV).deep dp&&(([(0,(.p k0 0)),(1,(.a (dD a0)))]:List (Nat×AV)).all (fun y=>y.2.cC ⟨dp,3⟩)&&([]:List (Nat×List AV)).all (fun y=>AV.dB ⟨dp,3⟩ y.2)))=true)<|ai (rN dp)<|ai (aC (I) a0.Params)<|bP h (fun h1 h=>ai (av h1)<|L h) (fun h1 h=>ai (aw h1)<|ai (rN dp)<|ai (aC (I) a0.Params)<|K0 h (dZ (AD dp hp k0 hk_k0 hz c0 a0) 0) (fun ya_3 h=>L h) (fun yb_3 h=>L h) (fun yc_3 h=>ai (rN dp)<|ai ff<|ai tt<|bR h fun r5 ek6 h=>have ek6:=cO hk_k0 (qH (dp+1) (boxes dp [(3,(dD a0))] (aF hp k0 (bj c0))) k0 (eK hk_k0) (dw (cu hk_k0 (hz))) c0 a0.Body _ ek6);ai ek6<|ai (zm ek6 (by kernel_rfl) (by kernel_rfl))<|ai (zn ek6 (cu hk_k0 (hz)))<|bI h (fun h7 h=>ai h7<|L h) (fun h7 h=>ai h7<|bq<|ai (rN dp)<|bq<|bq<|ai tt<|ai (cT hk_k0)<|ai (eX hp k0 (bj c0))<|ai tt<|ai (aC cJ c0.p.Vars)<|ai tt<|aW h (tX a0.Result (c0.p.Vars.length:Int)) fun r8 h=>L h)))
end
section
variable (a0:Program)(v0_22:Nat)(v0_18_8:Nat)
def mQ:Option ((Nat×Nat)⊕(Int⊕(Nat×Bool×Nat))):=
 if (v0_22:Int)<(a0.Funcs.length:Int) then
  (a0.Funcs[v0_22]?).bind fun (y8:Func)=>
  (mP (⟨a0,(v0_22:Int)⟩:Checker) y8).bind fun (r10:Int)=>
  if (r10 !=0)=true then
   some (.inr (.inl r10))
  else
   if IntKind.i64.wrap ((v0_22:Int)+1)=((v0_22+1:Nat):Int) then
    some (.inl (v0_22+1,v0_22))
   else none
 else
  some (.inr (.inr (v0_22,decide ((v0_22:Int)<(a0.Funcs.length:Int)),v0_18_8)))
abbrev G9(v:(Nat×Nat)):St:=⟨[(1,(.p ⟨0,1⟩ 0)),(4,(.p ⟨0,18⟩ 0)),(20,(.l 101 (a0.Funcs.map cA))),(21,(I (a0.Funcs.length:Int))),(22,(I (v.1:Int)))],[(1,(ar a0)),(18,[(I a0.aj.Many),(.l 166 (a0.aj.Grants.map aG)),(.l 3 (a0.Speak.map (I))),(.l 81 (a0.Ins.map ay)),(.l 81 (a0.Outs.map ay)),(.l 83 (a0.Vars.map cJ)),(.l 101 (a0.Funcs.map cA)),(.l 92 (a0.Main.map aV)),(I (v.2:Int))])],H0⟩
abbrev ud(x:(Int⊕(Nat×Bool×Nat))):aI×St:=match x with | .inl z1=>(.ret,⟨[(2,(I z1))],[],H0⟩) | .inr (z1,z2,z3)=>((.ex 0),⟨[(1,(.p ⟨0,1⟩ 0)),(4,(.p ⟨0,18⟩ 0)),(20,(.l 101 (a0.Funcs.map cA))),(21,(I (a0.Funcs.length:Int))),(22,(I (z1:Int))),(23,(.b z2))],[(1,(ar a0)),(18,[(I a0.aj.Many),(.l 166 (a0.aj.Grants.map aG)),(.l 3 (a0.Speak.map (I))),(.l 81 (a0.Ins.map ay)),(.l 81 (a0.Outs.map ay)),(.l 83 (a0.Vars.map cJ)),(.l 101 (a0.Funcs.map cA)),(.l 92 (a0.Main.map aV)),(I (z3:Int))])],H0⟩)
theorem FC(o:(Nat×Nat)⊕(Int⊕(Nat×Bool×Nat)))(h:mQ a0 v0_22 v0_18_8=some o):bz E0 UP (G9 a0) (ud a0) (v0_22,v0_18_8) o:=
 bG (.or (bt<|ao (.n v0_22)<|.ex fun (y8:Func)=>ao (.v (.a (dD y8)))<|uF<|xI fun r10=>ao (.h (boxes 0 [(1,(ar a0)),(6,(dD y8)),(18,[(I a0.aj.Many),(.l 166 (a0.aj.Grants.map aG)),(.l 3 (a0.Speak.map (I))),(.l 81 (a0.Ins.map ay)),(.l 81 (a0.Outs.map ay)),(.l 83 (a0.Vars.map cJ)),(.l 101 (a0.Funcs.map cA)),(.l 92 (a0.Main.map aV)),(I (v0_22:Int))])] H0))<|ao (.bx [(1,(ar a0)),(6,(dD y8)),(18,[(I a0.aj.Many),(.l 166 (a0.aj.Grants.map aG)),(.l 3 (a0.Speak.map (I))),(.l 81 (a0.Ins.map ay)),(.l 81 (a0.Outs.map ay)),(.l 83 (a0.Vars.map cJ)),(.l 101 (a0.Funcs.map cA)),(.l 92 (a0.Main.map aV)),(I (v0_22:Int))])])<|ao (.h (H0))<|oN (ao (.i ((v0_22+1:Nat):Int))<|.nil)) (bf<|.nil)) fun L=>bP h (fun h7 h=>ai (av h7)<|ai (rI v0_22)<|bR h fun y8 h9 h=>ai (aD cA h9)<|ai tt<|ai ff<|fB<|ai (rfl:Z0)<|ai ff<|fB<|kD<|ai ff<|ai tt<|bR h fun r10 ek11 h=>have ek11:call G Ω0 ⟨0+1,false⟩ 94 [(.p ⟨0,18⟩ 0),(.a (dD y8))] (boxes 0 [(1,(ar a0)),(6,(dD y8)),(18,[(I a0.aj.Many),(.l 166 (a0.aj.Grants.map aG)),(.l 3 (a0.Speak.map (I))),(.l 81 (a0.Ins.map ay)),(.l 81 (a0.Outs.map ay)),(.l 83 (a0.Vars.map cJ)),(.l 101 (a0.Funcs.map cA)),(.l 92 (a0.Main.map aV)),(I (v0_22:Int))])] H0)=some (.ret (I r10),boxes 0 [(1,(ar a0)),(6,(dD y8)),(18,[(I a0.aj.Many),(.l 166 (a0.aj.Grants.map aG)),(.l 3 (a0.Speak.map (I))),(.l 81 (a0.Ins.map ay)),(.l 81 (a0.Outs.map ay)),(.l 83 (a0.Vars.map cJ)),(.l 101 (a0.Funcs.map cA)),(.l 92 (a0.Main.map aV)),(I (v0_22:Int))])] H0):=pa (gE (bx1:=[(1,(ar a0)),(6,(dD y8)),(18,[(I a0.aj.Many),(.l 166 (a0.aj.Grants.map aG)),(.l 3 (a0.Speak.map (I))),(.l 81 (a0.Ins.map ay)),(.l 81 (a0.Outs.map ay)),(.l 83 (a0.Vars.map cJ)),(.l 101 (a0.Funcs.map cA)),(.l 92 (a0.Main.map aV)),(I (v0_22:Int))])]) (by kernel_rfl) (by kernel_rfl)) (gE (bx1:=[(1,(ar a0)),(6,(dD y8)),(18,[(I a0.aj.Many),(.l 166 (a0.aj.Grants.map aG)),(.l 3 (a0.Speak.map (I))),(.l 81 (a0.Ins.map ay)),(.l 81 (a0.Outs.map ay)),(.l 83 (a0.Vars.map cJ)),(.l 101 (a0.Funcs.map cA)),(.l 92 (a0.Main.map aV)),(I (v0_22:Int))])]) (by kernel_rfl) (by kernel_rfl)) (AE (0+1) (boxes 0 [(1,(ar a0)),(6,(dD y8)),(18,[(I a0.aj.Many),(.l 166 (a0.aj.Grants.map aG)),(.l 3 (a0.Speak.map (I))),(.l 81 (a0.Ins.map ay)),(.l 81 (a0.Outs.map ay)),(.l 83 (a0.Vars.map cJ)),(.l 101 (a0.Funcs.map cA)),(.l 92 (a0.Main.map aV)),(I (v0_22:Int))])] H0) ⟨0,18⟩ (nm 0) (dw (iN 0)) (⟨a0,(v0_22:Int)⟩:Checker) y8 _ ek11);ai ek11<|ai (zm ek11 (by kernel_rfl) (by kernel_rfl))<|ai (zn ek11 (iN 0))<|bI h (fun h12 h=>ai h12<|L h) (fun h12 h=>ai h12<|aJ h fun w13 h=>ai w13<|L h)) (fun h7 h=>ai (aw h7)<|L h)
abbrev Ki(a0:Program)(r:Int):bm×HP:=(.ret (I r),H0)
def sK:Option Int:=
 (uc a0).bind fun (r1:Int)=>
 if (r1 !=0)=true then
  some r1
 else
  (vA a0).bind fun (r4:Bool)=>
  if r4=true then
   (lp (fun v=>mQ a0 v.1 v.2) (0,0)).bind fun (x7:(Int⊕(Nat×Bool×Nat)))=>match x7 with
   | .inl ya_8=>
    some ya_8
   | .inr yb_8=>
    (iw (⟨a0,(a0.Funcs.length:Int)⟩:Checker) a0.Main).bind fun (r10:Int)=>
    some r10
  else
   some 2
theorem FD(r:Int)(h:sK a0=some r):call G Ω0 E0 36 [(.a (ar a0))] H0=some (Ki a0 r):=
 aX G36 (bt<|xI fun r1=>oN (bt<|xB fun r4=>.or (bf<|bt<|bt<|ao (.i (a0.Funcs.length:Int))<|.or (.ex fun (ya_8:Int)=>ao (.bX (ud a0 (.inl ya_8)))<|.nil) (.ex fun (yb_8:(Nat×Bool×Nat))=>ao (.bX (ud a0 (.inr yb_8)))<|bt<|ao (.i (a0.Funcs.length:Int))<|iu<|xI fun r10=>ao (.h (boxes 0 [(1,(ar a0)),(18,[(I a0.aj.Many),(.l 166 (a0.aj.Grants.map aG)),(.l 3 (a0.Speak.map (I))),(.l 81 (a0.Ins.map ay)),(.l 81 (a0.Outs.map ay)),(.l 83 (a0.Vars.map cJ)),(.l 101 (a0.Funcs.map cA)),(.l 92 (a0.Main.map aV)),(I (a0.Funcs.length:Int))])] H0))<|ao (.bx [(1,(ar a0)),(18,[(I a0.aj.Many),(.l 166 (a0.aj.Grants.map aG)),(.l 3 (a0.Speak.map (I))),(.l 81 (a0.Ins.map ay)),(.l 81 (a0.Outs.map ay)),(.l 83 (a0.Vars.map cJ)),(.l 101 (a0.Funcs.map cA)),(.l 92 (a0.Main.map aV)),(I (a0.Funcs.length:Int))])])<|ao (.h (H0))<|.nil)) (bt<|.nil))) fun L=>su<|aW h (G8 a0) fun r1 h=>bI h (fun h3 h=>ai h3<|L h) (fun h3 h=>kP h3<|aW h (IS a0) fun r4 h=>bI h (fun h6 h=>ai (an not h6)<|fB<|ai (rfl:Z0)<|ai (aC cA a0.Funcs)<|dy h (dZ (fun v=>FC a0 v.1 v.2) (0,0)) (fun ya_8 h=>L h) (fun yb_8 h=>ai (rfl:Z0)<|ai (aC cA a0.Funcs)<|ai ff<|fB<|kD<|ai ff<|ai tt<|bR h fun r10 ek11 h=>have ek11:call G Ω0 ⟨0+1,false⟩ 95 [(.p ⟨0,18⟩ 0),(.l 92 (a0.Main.map aV))] (boxes 0 [(1,(ar a0)),(18,[(I a0.aj.Many),(.l 166 (a0.aj.Grants.map aG)),(.l 3 (a0.Speak.map (I))),(.l 81 (a0.Ins.map ay)),(.l 81 (a0.Outs.map ay)),(.l 83 (a0.Vars.map cJ)),(.l 101 (a0.Funcs.map cA)),(.l 92 (a0.Main.map aV)),(I (a0.Funcs.length:Int))])] H0)=some (.ret (I r10),boxes 0 [(1,(ar a0)),(18,[(I a0.aj.Many),(.l 166 (a0.aj.Grants.map aG)),(.l 3 (a0.Speak.map (I))),(.l 81 (a0.Ins.map ay)),(.l 81 (a0.Outs.map ay)),(.l 83 (a0.Vars.map cJ)),(.l 101 (a0.Funcs.map cA)),(.l 92 (a0.Main.map aV)),(I (a0.Funcs.length:Int))])] H0):=pa (gE (bx1:=[(1,(ar a0)),(18,[(I a0.aj.Many),(.l 166 (a0.aj.Grants.map aG)),(.l 3 (a0.Speak.map (I))),(.l 81 (a0.Ins.map ay)),(.l 81 (a0.Outs.map ay)),(.l 83 (a0.Vars.map cJ)),(.l 101 (a0.Funcs.map cA)),(.l 92 (a0.Main.map aV)),(I (a0.Funcs.length:Int))])]) (by kernel_rfl) (by kernel_rfl)) (gE (bx1:=[(1,(ar a0)),(18,[(I a0.aj.Many),(.l 166 (a0.aj.Grants.map aG)),(.l 3 (a0.Speak.map (I))),(.l 81 (a0.Ins.map ay)),(.l 81 (a0.Outs.map ay)),(.l 83 (a0.Vars.map cJ)),(.l 101 (a0.Funcs.map cA)),(.l 92 (a0.Main.map aV)),(I (a0.Funcs.length:Int))])]) (by kernel_rfl) (by kernel_rfl)) (qH (0+1) (boxes 0 [(1,(ar a0)),(18,[(I a0.aj.Many),(.l 166 (a0.aj.Grants.map aG)),(.l 3 (a0.Speak.map (I))),(.l 81 (a0.Ins.map ay)),(.l 81 (a0.Outs.map ay)),(.l 83 (a0.Vars.map cJ)),(.l 101 (a0.Funcs.map cA)),(.l 92 (a0.Main.map aV)),(I (a0.Funcs.length:Int))])] H0) ⟨0,18⟩ (nm 0) (dw (iN 0)) (⟨a0,(a0.Funcs.length:Int)⟩:Checker) a0.Main _ ek11);ai ek11<|ai (zm ek11 (by kernel_rfl) (by kernel_rfl))<|ai (zn ek11 (iN 0))<|L h)) (fun h6 h=>ai (an not h6)<|L h))
end
section
variable (a0:(List Bool))(a1:(List Bool))(v0_5:(List Bool))(v0_10:Nat)
def mn:Option (((List Bool)×Nat)⊕((List Bool)×Nat×Bool)):=
 if (v0_10:Int)<(a0.length:Int) then
  (a0[v0_10]?).bind fun (y2:Bool)=>
  if y2=true then
   (a1[v0_10]?).bind fun (y5:Bool)=>
   if v0_5.length + [y5].length≤1000000000 then
    if IntKind.i64.wrap ((v0_10:Int)+1)=((v0_10+1:Nat):Int) then
     some (.inl (v0_5++[y5],v0_10+1))
    else none
   else none
  else
   if v0_5.length + [false].length≤1000000000 then
    if IntKind.i64.wrap ((v0_10:Int)+1)=((v0_10+1:Nat):Int) then
     some (.inl (v0_5++[false],v0_10+1))
    else none
   else none
 else
  some (.inr (v0_5,v0_10,decide ((v0_10:Int)<(a0.length:Int))))
abbrev Kj(v:((List Bool)×Nat)):St:=⟨[(1,(.l 4 (a1.map AV.b))),(5,(.o 4 (v.1.map AV.b))),(8,(.l 4 (a0.map AV.b))),(9,(I (a0.length:Int))),(10,(I (v.2:Int)))],[],H0⟩
abbrev BZ(x:((List Bool)×Nat×Bool)):aI×St:=((.ex 0),⟨[(1,(.l 4 (a1.map AV.b))),(5,(.o 4 (x.1.map AV.b))),(8,(.l 4 (a0.map AV.b))),(9,(I (a0.length:Int))),(10,(I (x.2.1:Int))),(11,(.b x.2.2))],[],H0⟩)
theorem IT(o:((List Bool)×Nat)⊕((List Bool)×Nat×Bool))(h:mn a0 a1 v0_5 v0_10=some o):bz E0 QF (Kj a0 a1) (BZ a0 a1) (v0_5,v0_10) o:=
 bG (.or (bt<|ao (.n v0_10)<|xB fun y2=>.or (iu<|ao (.n v0_10)<|xB fun y5=>en<|ao (.l ([y5].map AV.b))<|ao (.l ((v0_5++[y5]).map AV.b))<|ao (.i ((v0_10+1:Nat):Int))<|.nil) (Tu<|ao (.l ([false].map AV.b))<|ao (.l ((v0_5++[false]).map AV.b))<|ao (.i ((v0_10+1:Nat):Int))<|.nil)) (bf<|.nil)) fun L=>bP h (fun h1 h=>ai (av h1)<|ai (rI v0_10)<|bR h fun y2 h3 h=>ai (aD AV.b h3)<|bI h (fun h4 h=>N1 h4<|ai (rI v0_10)<|bR h fun y5 h6 h=>ai (aD AV.b h6)<|rZ h4<|ai (rfl:[(.b y5)]=[y5].map AV.b)<|ai ff<|aJ h fun h7 h=>ai ((ir AV.b (n:=1) (fun _=>rfl) [y5]):([y5].map AV.b).all (fun e=>e.nc==1)=true)<|ai ((la h7 (by decide)):((v0_5.map AV.b).length+([y5].map AV.b).length)*1≤140737488355328)<|ai ((lf h7):(v0_5.map AV.b).length+([y5].map AV.b).length≤maxLen)<|ai (cI.symm:v0_5.map AV.b++[y5].map AV.b=(v0_5++[y5]).map AV.b)<|aJ h fun w8 h=>ai w8<|L h) (fun h4 h=>dt h4<|dt h4<|ai h4<|ai (rfl:[(.b false)]=[false].map AV.b)<|ai ff<|aJ h fun h5 h=>ai ((ir AV.b (n:=1) (fun _=>rfl) [false]):([false].map AV.b).all (fun e=>e.nc==1)=true)<|ai ((la h5 (by decide)):((v0_5.map AV.b).length+([false].map AV.b).length)*1≤140737488355328)<|ai ((lf h5):(v0_5.map AV.b).length+([false].map AV.b).length≤maxLen)<|ai (cI.symm:v0_5.map AV.b++[false].map AV.b=(v0_5++[false]).map AV.b)<|aJ h fun w6 h=>ai w6<|L h)) (fun h1 h=>ai (aw h1)<|L h)
abbrev Nt(a0:(List Bool))(a1:(List Bool))(r:(List Bool)):bm×HP:=(.ret (.l 4 (r.map AV.b)),H0)
def vB:Option (List Bool):=
 (lp (fun v=>mn a0 a1 v.1 v.2) (([]:List Bool),0)).bind fun (x1:((List Bool)×Nat×Bool))=>
 some x1.1
theorem IU(r:(List Bool))(h:vB a0 a1=some r):call G Ω0 E0 127 [(.l 4 (a0.map AV.b)),(.l 4 (a1.map AV.b))] H0=some (Nt a0 a1 r):=
 aX ajC (ao (.i (a0.length:Int))<|.ex fun (x1:((List Bool)×Nat×Bool))=>ao (.bX (BZ a0 a1 x1))<|.nil) fun L=>ai (aC AV.b a0)<|aW h (dZ (fun v=>IT a0 a1 v.1 v.2) (([]:List Bool),0)) fun x1 h=>L h
def n7:Option (((List Bool)×Nat)⊕((List Bool)×Nat×Bool)):=
 if (v0_10:Int)<(a0.length:Int) then
  (a0[v0_10]?).bind fun (y2:Bool)=>
  if y2=true then
   if v0_5.length + [true].length≤1000000000 then
    if IntKind.i64.wrap ((v0_10:Int)+1)=((v0_10+1:Nat):Int) then
     some (.inl (v0_5++[true],v0_10+1))
    else none
   else none
  else
   (a1[v0_10]?).bind fun (y5:Bool)=>
   if v0_5.length + [y5].length≤1000000000 then
    if IntKind.i64.wrap ((v0_10:Int)+1)=((v0_10+1:Nat):Int) then
     some (.inl (v0_5++[y5],v0_10+1))
    else none
   else none
 else
  some (.inr (v0_5,v0_10,decide ((v0_10:Int)<(a0.length:Int))))
abbrev L7(v:((List Bool)×Nat)):St:=⟨[(1,(.l 4 (a1.map AV.b))),(5,(.o 4 (v.1.map AV.b))),(8,(.l 4 (a0.map AV.b))),(9,(I (a0.length:Int))),(10,(I (v.2:Int)))],[],H0⟩
abbrev Dh(x:((List Bool)×Nat×Bool)):aI×St:=((.ex 0),⟨[(1,(.l 4 (a1.map AV.b))),(5,(.o 4 (x.1.map AV.b))),(8,(.l 4 (a0.map AV.b))),(9,(I (a0.length:Int))),(10,(I (x.2.1:Int))),(11,(.b x.2.2))],[],H0⟩)
theorem Kk(o:((List Bool)×Nat)⊕((List Bool)×Nat×Bool))(h:n7 a0 a1 v0_5 v0_10=some o):bz E0 QE (L7 a0 a1) (Dh a0 a1) (v0_5,v0_10) o:=
 bG (.or (bt<|ao (.n v0_10)<|xB fun y2=>.or (VI<|ao (.l ([true].map AV.b))<|ao (.l ((v0_5++[true]).map AV.b))<|ao (.i ((v0_10+1:Nat):Int))<|.nil) (iu<|ao (.n v0_10)<|xB fun y5=>wW<|ao (.l ([y5].map AV.b))<|ao (.l ((v0_5++[y5]).map AV.b))<|ao (.i ((v0_10+1:Nat):Int))<|.nil)) (bf<|.nil)) fun L=>bP h (fun h1 h=>ai (av h1)<|ai (rI v0_10)<|bR h fun y2 h3 h=>ai (aD AV.b h3)<|bI h (fun h4 h=>VH h4<|ai (rfl:[(.b true)]=[true].map AV.b)<|ai ff<|aJ h fun h5 h=>ai ((ir AV.b (n:=1) (fun _=>rfl) [true]):([true].map AV.b).all (fun e=>e.nc==1)=true)<|ai ((la h5 (by decide)):((v0_5.map AV.b).length+([true].map AV.b).length)*1≤140737488355328)<|ai ((lf h5):(v0_5.map AV.b).length+([true].map AV.b).length≤maxLen)<|ai (cI.symm:v0_5.map AV.b++[true].map AV.b=(v0_5++[true]).map AV.b)<|aJ h fun w6 h=>ai w6<|L h) (fun h4 h=>bY h4<|ai (g0 h4)<|ai (rI v0_10)<|bR h fun y5 h6 h=>ai (aD AV.b h6)<|jy h4<|ai (rfl:[(.b y5)]=[y5].map AV.b)<|ai ff<|aJ h fun h7 h=>ai ((ir AV.b (n:=1) (fun _=>rfl) [y5]):([y5].map AV.b).all (fun e=>e.nc==1)=true)<|ai ((la h7 (by decide)):((v0_5.map AV.b).length+([y5].map AV.b).length)*1≤140737488355328)<|ai ((lf h7):(v0_5.map AV.b).length+([y5].map AV.b).length≤maxLen)<|ai (cI.symm:v0_5.map AV.b++[y5].map AV.b=(v0_5++[y5]).map AV.b)<|aJ h fun w8 h=>ai w8<|L h)) (fun h1 h=>ai (aw h1)<|L h)
abbrev PG(a0:(List Bool))(a1:(List Bool))(r:(List Bool)):bm×HP:=(.ret (.l 4 (r.map AV.b)),H0)
def xv:Option (List Bool):=
 (lp (fun v=>n7 a0 a1 v.1 v.2) (([]:List Bool),0)).bind fun (x1:((List Bool)×Nat×Bool))=>
 some x1.1
theorem Kl(r:(List Bool))(h:xv a0 a1=some r):call G Ω0 E0 126 [(.l 4 (a0.map AV.b)),(.l 4 (a1.map AV.b))] H0=some (PG a0 a1 r):=
 aX ajB (ao (.i (a0.length:Int))<|.ex fun (x1:((List Bool)×Nat×Bool))=>ao (.bX (Dh a0 a1 x1))<|.nil) fun L=>ai (aC AV.b a0)<|aW h (dZ (fun v=>Kk a0 a1 v.1 v.2) (([]:List Bool),0)) fun x1 h=>L h
end
section
variable (a0:Level)(a1:Level)
abbrev L8(a0:Level)(a1:Level)(r:Level):bm×HP:=(.ret (.a [(.l 4 (r.Readers.map AV.b)),(.l 4 (r.Writers.map AV.b))]),H0)
def ez:Option Level:=
 (vB a0.Readers a1.Readers).bind fun (r1:(List Bool))=>
 (xv a0.Writers a1.Writers).bind fun (r3:(List Bool))=>
 some (⟨r1,r3⟩:Level)
theorem mR(r:Level)(h:ez a0 a1=some r):call G Ω0 E0 98 [(.a [(.l 4 (a0.Readers.map AV.b)),(.l 4 (a0.Writers.map AV.b))]),(.a [(.l 4 (a1.Readers.map AV.b)),(.l 4 (a1.Writers.map AV.b))])] H0=some (L8 a0 a1 r):=
 aX G98 (en<|.ex fun (r1:(List Bool))=>ao (.v (.l 4 (r1.map AV.b)))<|en<|.ex fun (r3:(List Bool))=>ao (.v (.l 4 (r3.map AV.b)))<|en<|.nil) fun L=>bq<|bq<|ai tt<|ai (rfl:Z0)<|bq<|fB<|aW h (IU a0.Readers a1.Readers) fun r1 h=>bq<|ai (rfl:Z0)<|bq<|fB<|aW h (Kl a0.Writers a1.Writers) fun r3 h=>ai ff<|fB<|kD<|L h
end
section
variable (a0:aj)
abbrev IV(a0:aj)(r:Level):bm×HP:=(.ret (.a [(.l 4 (r.Readers.map AV.b)),(.l 4 (r.Writers.map AV.b))]),H0)
def ix:Option Level:=
 (Pq true a0.Many).bind fun (r1:(List Bool))=>
 (ed a0.Many).bind fun (j3:Nat)=>
 if j3≤1000000000 then
  some (⟨r1,List.replicate j3 false⟩:Level)
 else none
theorem nJ(r:Level)(h:ix a0=some r):call G Ω0 E0 96 [(.a [(I a0.Many),(.l 166 (a0.Grants.map aG))])] H0=some (IV a0 r):=
 aX G96 (ao (.l ([true].map AV.b))<|bt<|.ex fun (r1:(List Bool))=>ao (.v (.l 4 (r1.map AV.b)))<|bt<|xN fun j3=>ao (.l ((List.replicate j3 false).map AV.b))<|en<|.nil) fun L=>zU<|ai (rfl:[(.b true)]=[true].map AV.b)<|bq<|fB<|bR h fun r1 ek2 h=>have ek2:Ω0 141 [(.l 4 ([true].map AV.b)),(I a0.Many)]=some (.l 4 (r1.map AV.b)):=Wf ek2;ai ek2<|bq<|fB<|kC h fun j3 h4 h=>ai h4<|aJ h fun h5 h=>ai ((KV h5 (by decide)):j3*1≤140737488355328)<|ai ((KY h5):j3≤maxLen)<|ai ((yO ..).symm:List.replicate j3 (.b false)=(List.replicate j3 false).map AV.b)<|JA<|L h
end
section
variable (a0:(List Bool))(a1:(List Bool))(v0_9:Nat)
def kG:Option (Nat⊕(Unit⊕(Nat×Bool))):=
 if (v0_9:Int)<(a0.length:Int) then
  (a0[v0_9]?).bind fun (y2:Bool)=>
  if y2=true then
   (a1[v0_9]?).bind fun (y5:Bool)=>
   if y5=true then
    if IntKind.i64.wrap ((v0_9:Int)+1)=((v0_9+1:Nat):Int) then
     some (.inl (v0_9+1))
    else none
   else
    some (.inr (.inl ()))
  else
   if IntKind.i64.wrap ((v0_9:Int)+1)=((v0_9+1:Nat):Int) then
    some (.inl (v0_9+1))
   else none
 else
  some (.inr (.inr (v0_9,decide ((v0_9:Int)<(a0.length:Int)))))
abbrev Km(v:Nat):St:=⟨[(1,(.l 4 (a1.map AV.b))),(7,(.l 4 (a0.map AV.b))),(8,(I (a0.length:Int))),(9,(I (v:Int)))],[],H0⟩
abbrev wM(x:(Unit⊕(Nat×Bool))):aI×St:=match x with | .inl ()=>(.ret,⟨[(4,(.b false))],[],H0⟩) | .inr (z1,z2)=>((.ex 0),⟨[(1,(.l 4 (a1.map AV.b))),(7,(.l 4 (a0.map AV.b))),(8,(I (a0.length:Int))),(9,(I (z1:Int))),(10,(.b z2))],[],H0⟩)
theorem IW(o:Nat⊕(Unit⊕(Nat×Bool)))(h:kG a0 a1 v0_9=some o):bz E0 Qs (Km a0 a1) (wM a0 a1) v0_9 o:=
 bG (.or (bt<|ao (.n v0_9)<|xB fun y2=>.or (iu<|ao (.n v0_9)<|xB fun y5=>iu<|.or (bf<|ao (.i ((v0_9+1:Nat):Int))<|.nil) (bt<|.nil)) (Tr<|ao (.i ((v0_9+1:Nat):Int))<|.nil)) (bf<|.nil)) fun L=>bP h (fun h1 h=>ai (av h1)<|ai (rI v0_9)<|bR h fun y2 h3 h=>ai (aD AV.b h3)<|bI h (fun h4 h=>N1 h4<|ai (rI v0_9)<|bR h fun y5 h6 h=>ai (aD AV.b h6)<|nX h4<|bI h (fun h7 h=>ai (an not h7)<|aJ h fun w8 h=>ai w8<|L h) (fun h7 h=>ai (an not h7)<|L h)) (fun h4 h=>ev7 h4<|aJ h fun w5 h=>ai w5<|L h)) (fun h1 h=>ai (aw h1)<|L h)
abbrev Nu(a0:(List Bool))(a1:(List Bool))(r:Bool):bm×HP:=(.ret (.b r),H0)
def sw:Option Bool:=
 (lp (fun v=>kG a0 a1 v) 0).bind fun (x1:(Unit⊕(Nat×Bool)))=>match x1 with
 | .inl ya_2=>
  some false
 | .inr yb_2=>
  some true
theorem AF(r:Bool)(h:sw a0 a1=some r):call G Ω0 E0 109 [(.l 4 (a0.map AV.b)),(.l 4 (a1.map AV.b))] H0=some (Nu a0 a1 r):=
 aX ajo (ao (.i (a0.length:Int))<|.or (.ex fun (ya_2:Unit)=>ao (.bX (wM a0 a1 (.inl ya_2)))<|.nil) (.ex fun (yb_2:(Nat×Bool))=>ao (.bX (wM a0 a1 (.inr yb_2)))<|.nil)) fun L=>ai (aC AV.b a0)<|dy h (dZ (IW a0 a1) 0) (fun ya_2 h=>L h) (fun yb_2 h=>L h)
end
section
variable (a0:Level)(a1:Level)
abbrev Kn(a0:Level)(a1:Level)(r:Bool):bm×HP:=(.ret (.b r),H0)
def mo:Option Bool:=
 (sw a1.Readers a0.Readers).bind fun (r1:Bool)=>
 if r1=true then
  (sw a0.Writers a1.Writers).bind fun (r4:Bool)=>
  some r4
 else
  some false
theorem FE(r:Bool)(h:mo a0 a1=some r):call G Ω0 E0 43 [(.a [(.l 4 (a0.Readers.map AV.b)),(.l 4 (a0.Writers.map AV.b))]),(.a [(.l 4 (a1.Readers.map AV.b)),(.l 4 (a1.Writers.map AV.b))])] H0=some (Kn a0 a1 r):=
 aX G43 (en<|xB fun r1=>.or (Tx<|xB fun r4=>bt<|.nil) (bf<|bf<|bf<|bf<|bf<|bf<|.nil)) fun L=>bq<|kD<|aW h (AF a1.Readers a0.Readers) fun r1 h=>bI h (fun h3 h=>dt h3<|ai (rfl:Z0)<|dt h3<|ai (rfl:Z0)<|ai (g1 h3)<|aW h (AF a0.Writers a1.Writers) fun r4 h=>ai h3<|L h) (fun h3 h=>dt h3<|dt h3<|rZ h3<|L h)
end
section
variable (a0:aj)(v0_3:(List (List Bool)))(v0_12:Nat)(v1_5:(List Bool))(y9:Int)(v1_6:(List Int))
def lH(v0_3:(List (List Bool)))(v0_12:Nat)(v1_5:(List Bool))(y9:Int)(j12:Nat)(v2_6:(List Int))(v2_44:Nat):Option (((List Int)×Nat)⊕((List Int)×Nat×Bool)):=
 if (v2_44:Int)<(a0.Grants.length:Int) then
  (a0.Grants[v2_44]?).bind fun (y18:cG)=>
  if (y18.Who==y9)=true then
   if v2_6.length + [y18.For].length≤1000000000 then
    if IntKind.i64.wrap ((v2_44:Int)+1)=((v2_44+1:Nat):Int) then
     some (.inl (v2_6++[y18.For],v2_44+1))
    else none
   else none
  else
   if IntKind.i64.wrap ((v2_44:Int)+1)=((v2_44+1:Nat):Int) then
    some (.inl (v2_6,v2_44+1))
   else none
 else
  some (.inr (v2_6,v2_44,decide ((v2_44:Int)<(a0.Grants.length:Int))))
abbrev IX(j12:Nat)(v:((List Int)×Nat)):St:=⟨[(1,(.p ⟨0,1⟩ 0)),(3,(.o 43 (v0_3.map (bc 4 AV.b)))),(5,(.o 4 ((v1_5.set j12 true).map AV.b))),(6,(.o 3 (v.1.map (I)))),(7,(I y9)),(11,(I a0.Many)),(12,(I (v0_12:Int))),(29,.u),(42,(.l 166 (a0.Grants.map aG))),(43,(I (a0.Grants.length:Int))),(44,(I (v.2:Int)))],[(1,[(I a0.Many),(.l 166 (a0.Grants.map aG))])],H0⟩
abbrev AG(j12:Nat)(x:((List Int)×Nat×Bool)):aI×St:=((.ex 4),⟨[(1,(.p ⟨0,1⟩ 0)),(3,(.o 43 (v0_3.map (bc 4 AV.b)))),(5,(.o 4 ((v1_5.set j12 true).map AV.b))),(6,(.o 3 (x.1.map (I)))),(7,(I y9)),(11,(I a0.Many)),(12,(I (v0_12:Int))),(29,.u),(42,(.l 166 (a0.Grants.map aG))),(43,(I (a0.Grants.length:Int))),(44,(I (x.2.1:Int))),(45,(.b x.2.2))],[(1,[(I a0.Many),(.l 166 (a0.Grants.map aG))])],H0⟩)
theorem Ha(j12:Nat)(v2_6:(List Int))(v2_44:Nat)(o:((List Int)×Nat)⊕((List Int)×Nat×Bool))(h:lH a0 v0_3 v0_12 v1_5 y9 j12 v2_6 v2_44=some o):bz E0 Qo (IX a0 v0_3 v0_12 v1_5 y9 j12) (AG a0 v0_3 v0_12 v1_5 y9 j12) (v2_6,v2_44) o:=
 bG (.or (bt<|ao (.n v2_44)<|.ex fun (y18:cG)=>ao (.v (.a [(I y18.Who),(I y18.For)]))<|iu<|.or (en<|ao (.l ([y18.For].map (I)))<|ao (.l ((v2_6++[y18.For]).map (I)))<|ao (.i ((v2_44+1:Nat):Int))<|.nil) (bf<|ao (.i ((v2_44+1:Nat):Int))<|.nil)) (bf<|.nil)) fun L=>bP h (fun h17 h=>ai (av h17)<|ai (rI v2_44)<|bR h fun y18 h19 h=>ai (aD aG h19)<|JA<|bI h (fun h20 h=>kP h20<|ai (rfl:[(I y18.For)]=[y18.For].map (I))<|ai ff<|aJ h fun h21 h=>ai ((ir (I) (n:=1) (fun _=>rfl) [y18.For]):([y18.For].map (I)).all (fun e=>e.nc==1)=true)<|ai ((la h21 (by decide)):((v2_6.map (I)).length+([y18.For].map (I)).length)*8≤140737488355328)<|ai ((lf h21):(v2_6.map (I)).length+([y18.For].map (I)).length≤maxLen)<|ai (cI.symm:v2_6.map (I)++[y18.For].map (I)=(v2_6++[y18.For]).map (I))<|aJ h fun w22 h=>ai w22<|L h) (fun h20 h=>ai h20<|aJ h fun w21 h=>ai w21<|L h)) (fun h17 h=>ai (aw h17)<|L h)
def jA(v1_5:(List Bool)):Option (((List Int)×(List Bool))⊕((List Bool)×(List Int)×Bool)):=
 if 0<(v1_6.length:Int) then
  if IntKind.i64.wrap ((v1_6.length:Int) - 1)=(v1_6.length:Int) - 1 then
   (ed ((v1_6.length:Int) - 1)).bind fun (j7:Nat)=>
   (v1_6[j7]?).bind fun (y9:Int)=>
   if j7≤v1_6.length then
    (ed y9).bind fun (j12:Nat)=>
    (v1_5[j12]?).bind fun (y14:Bool)=>
    if y14=true then
     some (.inl (v1_6.take j7,v1_5))
    else
     (lp (fun v=>lH a0 v0_3 v0_12 v1_5 y9 j12 v.1 v.2) ((v1_6.take j7),0)).bind fun (x17:((List Int)×Nat×Bool))=>
     some (.inl (x17.1,v1_5.set j12 true))
   else none
  else none
 else
  some (.inr (v1_5,v1_6,decide (0<(v1_6.length:Int))))
abbrev IY(v:((List Int)×(List Bool))):St:=⟨[(1,(.p ⟨0,1⟩ 0)),(3,(.o 43 (v0_3.map (bc 4 AV.b)))),(5,(.o 4 (v.2.map AV.b))),(6,(.o 3 (v.1.map (I)))),(11,(I a0.Many)),(12,(I (v0_12:Int))),(29,.u)],[(1,[(I a0.Many),(.l 166 (a0.Grants.map aG))])],H0⟩
abbrev AH(x:((List Bool)×(List Int)×Bool)):aI×St:=((.ex 2),⟨[(1,(.p ⟨0,1⟩ 0)),(3,(.o 43 (v0_3.map (bc 4 AV.b)))),(5,(.o 4 (x.1.map AV.b))),(6,(.o 3 (x.2.1.map (I)))),(11,(I a0.Many)),(12,(I (v0_12:Int))),(22,(.b x.2.2)),(29,.u)],[(1,[(I a0.Many),(.l 166 (a0.Grants.map aG))])],H0⟩)
theorem Hb(v1_5:(List Bool))(o:((List Int)×(List Bool))⊕((List Bool)×(List Int)×Bool))(h:jA a0 v0_3 v0_12 v1_6 v1_5=some o):bz E0 Qp (IY a0 v0_3 v0_12) (AH a0 v0_3 v0_12) (v1_6,v1_5) o:=
 bG (ao (.i (v1_6.length:Int))<|.or (bt<|ao (.i (v1_6.length:Int))<|ao (.i ((v1_6.length:Int) - 1))<|xN fun j7=>xI fun y9=>ao (.v (I y9))<|ao (.i (v1_6.length:Int))<|ao (.i ((v1_6.length:Int) - 1))<|ao (.n j7)<|ao (.n j7)<|bt<|ao (.l ((v1_6.take j7).map (I)))<|xN fun j12=>xB fun y14=>ao (.v (.b y14))<|oN (ao (.n j12)<|ao (.v (.b y14))<|ao (.v (.b y14))<|ao (.l ((v1_5.set j12 true).map AV.b))<|bt<|ao (.i (a0.Grants.length:Int))<|.ex fun (x17:((List Int)×Nat×Bool))=>ao (.bX (AG a0 v0_3 v0_12 v1_5 y9 j12 x17))<|.nil)) (bf<|.nil)) fun L=>ai (aC (I) v1_6)<|bP h (fun h5 h=>ai (av h5)<|ai (aC (I) v1_6)<|aJ h fun w6 h=>ai w6<|kC h fun j7 h8 h=>ai h8<|bR h fun y9 h10 h=>ai (aD (I) h10)<|ai (aD (I) h10)<|ai (aC (I) v1_6)<|ai w6<|ai h8<|ai (ct _:0≤j7)<|aJ h fun h11 h=>ai ((by rw [dC];exact h11):j7≤(v1_6.map (I)).length)<|ai ((by simp):j7 - 0=j7)<|ai (rfl:((.s 6):Pl)=(.s 6))<|ai ((by rw [dC];exact h11):j7≤(v1_6.map (I)).length)<|ai (map_take (I) v1_6 j7)<|kC h fun j12 h13 h=>ai h13<|bR h fun y14 h15 h=>ai (aD AV.b h15)<|ai (aD AV.b h15)<|bI h (fun h16 h=>ai h16<|L h) (fun h16 h=>ai h16<|ai h13<|ai (aD AV.b h15)<|ai ff<|ai (aD AV.b h15)<|ai (map_set .. : (v1_5.map AV.b).set j12 (.b true)=(v1_5.set j12 true).map AV.b)<|ai (rfl:Z0)<|ai (aC aG a0.Grants)<|aW h (dZ (fun v=>Ha a0 v0_3 v0_12 v1_5 y9 j12 v.1 v.2) ((v1_6.take j7),0)) fun x17 h=>L h)) (fun h5 h=>ai (aw h5)<|L h)
def lI:Option (((List (List Bool))×Nat)⊕((List (List Bool))×Nat×Bool)):=
 if (v0_12:Int)<a0.Many then
  (ed a0.Many).bind fun (j2:Nat)=>
  if j2≤1000000000 then
   (lp (fun v=>jA a0 v0_3 v0_12 v.1 v.2) (([(v0_12:Int)]),(List.replicate j2 false))).bind fun (x5:((List Bool)×(List Int)×Bool))=>
   if v0_3.length + [x5.1].length≤1000000000 then
    if IntKind.i64.wrap ((v0_12:Int)+1)=((v0_12+1:Nat):Int) then
     some (.inl (v0_3++[x5.1],v0_12+1))
    else none
   else none
  else none
 else
  some (.inr (v0_3,v0_12,decide ((v0_12:Int)<a0.Many)))
abbrev IZ(v:((List (List Bool))×Nat)):St:=⟨[(1,(.p ⟨0,1⟩ 0)),(3,(.o 43 (v.1.map (bc 4 AV.b)))),(11,(I a0.Many)),(12,(I (v.2:Int)))],[(1,[(I a0.Many),(.l 166 (a0.Grants.map aG))])],H0⟩
abbrev AI(x:((List (List Bool))×Nat×Bool)):aI×St:=((.ex 0),⟨[(1,(.p ⟨0,1⟩ 0)),(3,(.o 43 (x.1.map (bc 4 AV.b)))),(11,(I a0.Many)),(12,(I (x.2.1:Int))),(13,(.b x.2.2))],[(1,[(I a0.Many),(.l 166 (a0.Grants.map aG))])],H0⟩)
theorem Hc(o:((List (List Bool))×Nat)⊕((List (List Bool))×Nat×Bool))(h:lI a0 v0_3 v0_12=some o):bz E0 Qq (IZ a0) (AI a0) (v0_3,v0_12) o:=
 bG (.or (en<|xN fun j2=>ao (.l ((List.replicate j2 false).map AV.b))<|ao (.l (([(v0_12:Int)]).map (I)))<|.ex fun (x5:((List Bool)×(List Int)×Bool))=>ao (.bX (AH a0 v0_3 v0_12 x5))<|ao (.l ([x5.1].map (bc 4 AV.b)))<|ao (.l ((v0_3++[x5.1]).map (bc 4 AV.b)))<|ao (.i ((v0_12+1:Nat):Int))<|.nil) (bf<|.nil)) fun L=>bP h (fun h1 h=>kP (av h1)<|kC h fun j2 h3 h=>ai h3<|aJ h fun h4 h=>ai ((KV h4 (by decide)):j2*1≤140737488355328)<|ai ((KY h4):j2≤maxLen)<|ai ((yO ..).symm:List.replicate j2 (.b false)=(List.replicate j2 false).map AV.b)<|ai (rfl:[(I (v0_12:Int))]=([(v0_12:Int)]).map (I))<|aW h (dZ (fun v=>Hb a0 v0_3 v0_12 v.1 v.2) (([(v0_12:Int)]),(List.replicate j2 false))) fun x5 h=>ai (rfl:[(.l 4 (x5.1.map AV.b))]=[x5.1].map (bc 4 AV.b))<|ai ff<|aJ h fun h7 h=>ai ((ir (bc 4 AV.b) (n:=1) (fun _=>rfl) [x5.1]):([x5.1].map (bc 4 AV.b)).all (fun e=>e.nc==1)=true)<|ai ((la h7 (by decide)):((v0_3.map (bc 4 AV.b)).length+([x5.1].map (bc 4 AV.b)).length)*24≤140737488355328)<|ai ((lf h7):(v0_3.map (bc 4 AV.b)).length+([x5.1].map (bc 4 AV.b)).length≤maxLen)<|ai (cI.symm:v0_3.map (bc 4 AV.b)++[x5.1].map (bc 4 AV.b)=(v0_3++[x5.1]).map (bc 4 AV.b))<|aJ h fun w8 h=>ai w8<|L h) (fun h1 h=>ai (aw h1)<|L h)
abbrev L9(a0:aj)(r:(List (List Bool))):bm×HP:=(.ret (.l 43 (r.map (bc 4 AV.b))),H0)
def ue:Option (List (List Bool)):=
 (lp (fun v=>lI a0 v.1 v.2) (([]:List (List Bool)),0)).bind fun (x1:((List (List Bool))×Nat×Bool))=>
 some x1.1
theorem Hd(r:(List (List Bool)))(h:ue a0=some r):call G Ω0 E0 102 [(.a [(I a0.Many),(.l 166 (a0.Grants.map aG))])] H0=some (L9 a0 r):=
 aX aji (bt<|.ex fun (x1:((List (List Bool))×Nat×Bool))=>ao (.bX (AI a0 x1))<|.nil) fun L=>su<|aW h (dZ (fun v=>Hc a0 v.1 v.2) (([]:List (List Bool)),0)) fun x1 h=>L h
end
section
variable (a0:Int)(a1:(List (List Bool)))(a2:Int)
abbrev FF(a0:Int)(a1:(List (List Bool)))(a2:Int)(r:Bool):bm×HP:=(.ret (.b r),H0)
def l8:Option Bool:=
 (ed a2).bind fun (j1:Nat)=>
 (a1[j1]?).bind fun (y3:(List Bool))=>
 (ed a0).bind fun (j5:Nat)=>
 (y3[j5]?).bind fun (y7:Bool)=>
 some y7
theorem Cb(r:Bool)(h:l8 a0 a1 a2=some r):call G Ω0 E0 106 [(I a0),(.e (.l 43 (a1.map (bc 4 AV.b))) 0),(.e (I a2) 0)] H0=some (FF a0 a1 a2 r):=
 aX ajl (xN fun j1=>.ex fun (y3:(List Bool))=>ao (.v (.l 4 (y3.map AV.b)))<|xN fun j5=>xB fun y7=>.nil) fun L=>kC h fun j1 h2 h=>ai h2<|bR h fun y3 h4 h=>ai (aD (bc 4 AV.b) h4)<|kC h fun j5 h6 h=>ai h6<|bR h fun y7 h8 h=>ai (aD AV.b h8)<|L h
end
section
variable (a0:(List Int))(a1:(List (List Bool)))(a2:Int)(v0_8:Nat)
def jZ:Option (Nat⊕(Nat⊕(Nat×Bool))):=
 if (v0_8:Int)<(a0.length:Int) then
  (a0[v0_8]?).bind fun (y2:Int)=>
  (l8 y2 a1 a2).bind fun (r4:Bool)=>
  if r4=true then
   some (.inr (.inl v0_8))
  else
   if IntKind.i64.wrap ((v0_8:Int)+1)=((v0_8+1:Nat):Int) then
    some (.inl (v0_8+1))
   else none
 else
  some (.inr (.inr (v0_8,decide ((v0_8:Int)<(a0.length:Int)))))
abbrev qI(v:Nat):St:=⟨[(0,(.l 3 (a0.map (I)))),(1,(.f 106 [(.e (.l 43 (a1.map (bc 4 AV.b))) 0),(.e (I a2) 0)])),(7,(I (a0.length:Int))),(8,(I (v:Int)))],[],H0⟩
abbrev fI(x:(Nat⊕(Nat×Bool))):aI×St:=match x with | .inl z1=>(.ret,⟨[(4,(I (z1:Int)))],[],H0⟩) | .inr (z1,z2)=>((.ex 0),⟨[(0,(.l 3 (a0.map (I)))),(1,(.f 106 [(.e (.l 43 (a1.map (bc 4 AV.b))) 0),(.e (I a2) 0)])),(7,(I (a0.length:Int))),(8,(I (z1:Int))),(9,(.b z2))],[],H0⟩)
theorem pZ(o:Nat⊕(Nat⊕(Nat×Bool)))(h:jZ a0 a1 a2 v0_8=some o):bz E0 GF (qI a0 a1 a2) (fI a0 a1 a2) v0_8 o:=
 bG (.or (bt<|ao (.n v0_8)<|xI fun y2=>xB fun r4=>oN (ao (.i ((v0_8+1:Nat):Int))<|.nil)) (bf<|.nil)) fun L=>bP h (fun h1 h=>ai (av h1)<|ai (rI v0_8)<|bR h fun y2 h3 h=>ai (aD (I) h3)<|aW h (Cb y2 a1 a2) fun r4 h=>bI h (fun h6 h=>ai h6<|L h) (fun h6 h=>ai h6<|aJ h fun w7 h=>ai w7<|L h)) (fun h1 h=>ai (aw h1)<|L h)
abbrev sf(a0:(List Int))(a1:(List (List Bool)))(a2:Int)(r:Int):bm×HP:=(.ret (I r),H0)
def kW:Option Int:=
 (lp (fun v=>jZ a0 a1 a2 v) 0).bind fun (x1:(Nat⊕(Nat×Bool)))=>match x1 with
 | .inl ya_2=>
  some (ya_2:Int)
 | .inr yb_2=>
  some (-1)
theorem p6(r:Int)(h:kW a0 a1 a2=some r):call G Ω0 E0 143 [(.l 3 (a0.map (I))),(.f 106 [(.e (.l 43 (a1.map (bc 4 AV.b))) 0),(.e (I a2) 0)])] H0=some (sf a0 a1 a2 r):=
 aX Tf (ao (.i (a0.length:Int))<|.or (.ex fun (ya_2:Nat)=>ao (.bX (fI a0 a1 a2 (.inl ya_2)))<|.nil) (.ex fun (yb_2:(Nat×Bool))=>ao (.bX (fI a0 a1 a2 (.inr yb_2)))<|.nil)) fun L=>ai (aC (I) a0)<|dy h (dZ (pZ a0 a1 a2) 0) (fun ya_2 h=>L h) (fun yb_2 h=>L h)
abbrev p7(a0:(List Int))(a1:(List (List Bool)))(a2:Int)(r:Bool):bm×HP:=(.ret (.b r),H0)
def fq:Option Bool:=
 (kW a0 a1 a2).bind fun (r1:Int)=>
 some (decide (0≤r1))
theorem oM(r:Bool)(h:fq a0 a1 a2=some r):call G Ω0 E0 105 [(.l 3 (a0.map (I))),(.f 106 [(.e (.l 43 (a1.map (bc 4 AV.b))) 0),(.e (I a2) 0)])] H0=some (p7 a0 a1 a2 r):=
 aX Te (xI fun r1=>.nil) fun L=>aW h (p6 a0 a1 a2) fun r1 h=>L h
end
section
variable (a0:bD)(a1:(List (List Bool)))(a2:Int)
abbrev I0(a0:bD)(a1:(List (List Bool)))(a2:Int)(r:Bool):bm×HP:=(.ret (.b r),H0)
def n9:Option Bool:=
 (ed a2).bind fun (j1:Nat)=>
 (a1[j1]?).bind fun (y3:(List Bool))=>
 (ed a0.Owner).bind fun (j5:Nat)=>
 (y3[j5]?).bind fun (y7:Bool)=>
 if y7=true then
  some false
 else
  (fq a0.Names a1 a2).bind fun (r10:Bool)=>
  some (!r10)
theorem EB(r:Bool)(h:n9 a0 a1 a2=some r):call G Ω0 E0 104 [(.a [(I a0.Owner),(.l 3 (a0.Names.map (I)))]),(.e (.l 43 (a1.map (bc 4 AV.b))) 0),(.e (I a2) 0)] H0=some (I0 a0 a1 a2 r):=
 aX ajk (xN fun j1=>.ex fun (y3:(List Bool))=>ao (.v (.l 4 (y3.map AV.b)))<|bt<|xN fun j5=>xB fun y7=>.or (bf<|bf<|bf<|bf<|bf<|bf<|.nil) (uF<|xB fun r10=>en<|.nil)) fun L=>uS<|kC h fun j1 h2 h=>ai h2<|bR h fun y3 h4 h=>ai (aD (bc 4 AV.b) h4)<|bq<|ai tt<|fB<|kC h fun j5 h6 h=>ai h6<|bR h fun y7 h8 h=>ai (aD AV.b h8)<|uS<|bI h (fun h9 h=>dt (an not h9)<|dt (an not h9)<|rZ (an not h9)<|L h) (fun h9 h=>ai (g1 (an not h9))<|ai tt<|ai (g1 (an not h9))<|fB<|ai (g1 (an not h9))<|ai tt<|ai (g1 (an not h9))<|aW h (oM a0.Names a1 a2) fun r10 h=>rZ (an not h9)<|L h)
end
section
variable (a0:(List bD))(a1:(List (List Bool)))(a2:Int)(v0_8:Nat)
def kX:Option (Nat⊕(Nat⊕(Nat×Bool))):=
 if (v0_8:Int)<(a0.length:Int) then
  (a0[v0_8]?).bind fun (y2:bD)=>
  (n9 y2 a1 a2).bind fun (r4:Bool)=>
  if r4=true then
   some (.inr (.inl v0_8))
  else
   if IntKind.i64.wrap ((v0_8:Int)+1)=((v0_8+1:Nat):Int) then
    some (.inl (v0_8+1))
   else none
 else
  some (.inr (.inr (v0_8,decide ((v0_8:Int)<(a0.length:Int)))))
abbrev sg(v:Nat):St:=⟨[(0,(.l 138 (a0.map aE))),(1,(.f 104 [(.e (.l 43 (a1.map (bc 4 AV.b))) 0),(.e (I a2) 0)])),(7,(I (a0.length:Int))),(8,(I (v:Int)))],[],H0⟩
abbrev gJ(x:(Nat⊕(Nat×Bool))):aI×St:=match x with | .inl z1=>(.ret,⟨[(4,(I (z1:Int)))],[],H0⟩) | .inr (z1,z2)=>((.ex 0),⟨[(0,(.l 138 (a0.map aE))),(1,(.f 104 [(.e (.l 43 (a1.map (bc 4 AV.b))) 0),(.e (I a2) 0)])),(7,(I (a0.length:Int))),(8,(I (z1:Int))),(9,(.b z2))],[],H0⟩)
theorem rz(o:Nat⊕(Nat⊕(Nat×Bool)))(h:kX a0 a1 a2 v0_8=some o):bz E0 QM (sg a0 a1 a2) (gJ a0 a1 a2) v0_8 o:=
 bG (.or (bt<|ao (.n v0_8)<|.ex fun (y2:bD)=>ao (.v (.a [(I y2.Owner),(.l 3 (y2.Names.map (I)))]))<|xB fun r4=>oN (ao (.i ((v0_8+1:Nat):Int))<|.nil)) (bf<|.nil)) fun L=>bP h (fun h1 h=>ai (av h1)<|ai (rI v0_8)<|bR h fun y2 h3 h=>ai (aD aE h3)<|aW h (EB y2 a1 a2) fun r4 h=>bI h (fun h6 h=>ai h6<|L h) (fun h6 h=>ai h6<|aJ h fun w7 h=>ai w7<|L h)) (fun h1 h=>ai (aw h1)<|L h)
abbrev tc(a0:(List bD))(a1:(List (List Bool)))(a2:Int)(r:Int):bm×HP:=(.ret (I r),H0)
def l9:Option Int:=
 (lp (fun v=>kX a0 a1 a2 v) 0).bind fun (x1:(Nat⊕(Nat×Bool)))=>match x1 with
 | .inl ya_2=>
  some (ya_2:Int)
 | .inr yb_2=>
  some (-1)
theorem rA(r:Int)(h:l9 a0 a1 a2=some r):call G Ω0 E0 144 [(.l 138 (a0.map aE)),(.f 104 [(.e (.l 43 (a1.map (bc 4 AV.b))) 0),(.e (I a2) 0)])] H0=some (tc a0 a1 a2 r):=
 aX ajN (ao (.i (a0.length:Int))<|.or (.ex fun (ya_2:Nat)=>ao (.bX (gJ a0 a1 a2 (.inl ya_2)))<|.nil) (.ex fun (yb_2:(Nat×Bool))=>ao (.bX (gJ a0 a1 a2 (.inr yb_2)))<|.nil)) fun L=>ai (aC aE a0)<|dy h (dZ (rz a0 a1 a2) 0) (fun ya_2 h=>L h) (fun yb_2 h=>L h)
abbrev rB(a0:(List bD))(a1:(List (List Bool)))(a2:Int)(r:Bool):bm×HP:=(.ret (.b r),H0)
def gb:Option Bool:=
 (l9 a0 a1 a2).bind fun (r1:Int)=>
 some (decide (0≤r1))
theorem pj(r:Bool)(h:gb a0 a1 a2=some r):call G Ω0 E0 107 [(.l 138 (a0.map aE)),(.f 104 [(.e (.l 43 (a1.map (bc 4 AV.b))) 0),(.e (I a2) 0)])] H0=some (rB a0 a1 a2 r):=
 aX ajm (xI fun r1=>.nil) fun L=>aW h (rA a0 a1 a2) fun r1 h=>L h
end
section
variable (a0:(List bD))(a1:aj)(a2:(List (List Bool)))(v0_5:(List Bool))(v0_10:Nat)
def lJ:Option (((List Bool)×Nat)⊕((List Bool)×Nat×Bool)):=
 if (v0_10:Int)<a1.Many then
  (gb a0 a2 (v0_10:Int)).bind fun (r2:Bool)=>
  if v0_5.length+([!r2]).length≤1000000000 then
   if IntKind.i64.wrap ((v0_10:Int)+1)=((v0_10+1:Nat):Int) then
    some (.inl (v0_5++([!r2]),v0_10+1))
   else none
  else none
 else
  some (.inr (v0_5,v0_10,decide ((v0_10:Int)<a1.Many)))
abbrev I1(v:((List Bool)×Nat)):St:=⟨[(0,(.l 138 (a0.map aE))),(2,(.e (.l 43 (a2.map (bc 4 AV.b))) 0)),(5,(.o 4 (v.1.map AV.b))),(9,(I a1.Many)),(10,(I (v.2:Int)))],[],H0⟩
abbrev AJ(x:((List Bool)×Nat×Bool)):aI×St:=((.ex 0),⟨[(0,(.l 138 (a0.map aE))),(2,(.e (.l 43 (a2.map (bc 4 AV.b))) 0)),(5,(.o 4 (x.1.map AV.b))),(9,(I a1.Many)),(10,(I (x.2.1:Int))),(11,(.b x.2.2))],[],H0⟩)
theorem He(o:((List Bool)×Nat)⊕((List Bool)×Nat×Bool))(h:lJ a0 a1 a2 v0_5 v0_10=some o):bz E0 Qr (I1 a0 a1 a2) (AJ a0 a1 a2) (v0_5,v0_10) o:=
 bG (.or (iu<|xB fun r2=>ao (.l (([!r2]).map AV.b))<|ao (.l ((v0_5++([!r2])).map AV.b))<|ao (.i ((v0_10+1:Nat):Int))<|.nil) (bf<|.nil)) fun L=>bP h (fun h1 h=>ai (av h1)<|ai tt<|ai ff<|fB<|kD<|aW h (pj a0 a2 (v0_10:Int)) fun r2 h=>ai (rfl:[(.b (!r2))]=([!r2]).map AV.b)<|ai ff<|aJ h fun h4 h=>ai ((ir AV.b (n:=1) (fun _=>rfl) ([!r2])):(([!r2]).map AV.b).all (fun e=>e.nc==1)=true)<|ai ((la h4 (by decide)):((v0_5.map AV.b).length+(([!r2]).map AV.b).length)*1≤140737488355328)<|ai ((lf h4):(v0_5.map AV.b).length+(([!r2]).map AV.b).length≤maxLen)<|ai (cI.symm:v0_5.map AV.b++([!r2]).map AV.b=(v0_5++([!r2])).map AV.b)<|aJ h fun w5 h=>ai w5<|L h) (fun h1 h=>ai (aw h1)<|L h)
abbrev Ma(a0:(List bD))(a1:aj)(a2:(List (List Bool)))(r:(List Bool)):bm×HP:=(.ret (.l 4 (r.map AV.b)),H0)
def qJ:Option (List Bool):=
 (lp (fun v=>lJ a0 a1 a2 v.1 v.2) (([]:List Bool),0)).bind fun (x1:((List Bool)×Nat×Bool))=>
 some x1.1
theorem zA(r:(List Bool))(h:qJ a0 a1 a2=some r):call G Ω0 E0 103 [(.l 138 (a0.map aE)),(.e (.a [(I a1.Many),(.l 166 (a1.Grants.map aG))]) 0),(.e (.l 43 (a2.map (bc 4 AV.b))) 0)] H0=some (Ma a0 a1 a2 r):=
 aX ajj (.ex fun (x1:((List Bool)×Nat×Bool))=>ao (.bX (AJ a0 a1 a2 x1))<|.nil) fun L=>aW h (dZ (fun v=>He a0 a1 a2 v.1 v.2) (([]:List Bool),0)) fun x1 h=>L h
end
section
variable (a0:aj)(a1:Label)
abbrev PH(a0:aj)(a1:Label)(r:Level):bm×HP:=(.ret (.a [(.l 4 (r.Readers.map AV.b)),(.l 4 (r.Writers.map AV.b))]),H0)
def lx:Option Level:=
 (ue a0).bind fun (r1:(List (List Bool)))=>
 (qJ a1.Read a0 r1).bind fun (r3:(List Bool))=>
 (qJ a1.Write a0 r1).bind fun (r5:(List Bool))=>
 some (⟨r3,r5⟩:Level)
theorem sL(r:Level)(h:lx a0 a1=some r):call G Ω0 E0 40 [(.a [(I a0.Many),(.l 166 (a0.Grants.map aG))]),(.a [(.l 138 (a1.Read.map aE)),(.l 138 (a1.Write.map aE))])] H0=some (PH a0 a1 r):=
 aX G40 (bt<|.ex fun (r1:(List (List Bool)))=>ao (.v (.l 43 (r1.map (bc 4 AV.b))))<|iu<|.ex fun (r3:(List Bool))=>ao (.v (.l 4 (r3.map AV.b)))<|bt<|.ex fun (r5:(List Bool))=>ao (.v (.l 4 (r5.map AV.b)))<|en<|.nil) fun L=>bq<|ai tt<|ai (rfl:Z0)<|aW h (Hd a0) fun r1 h=>ai tt<|ai ff<|fB<|kD<|ai (rfl:Z0)<|bq<|ai tt<|fB<|aW h (zA a1.Read a0 r1) fun r3 h=>bq<|ai tt<|fB<|aW h (zA a1.Write a0 r1) fun r5 h=>ai ff<|fB<|kD<|L h
end
end
end Go.Proofs.YtkkkkondjclcnaaGreat.A
