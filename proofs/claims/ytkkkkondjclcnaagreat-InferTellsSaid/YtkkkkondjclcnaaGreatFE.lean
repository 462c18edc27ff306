/- Functions of the program as plain functions, by program. -/
import Derived.Test.YtkkkkondjclcnaaGreatTypes
import Derived.Test.YtkkkkondjclcnaaGreatLift
import Derived.Test.YtkkkkondjclcnaaGreatFA
set_option linter.all false
set_option maxRecDepth 100000
namespace Go.Proofs.YtkkkkondjclcnaaGreat.A
open Go
noncomputable section
variable [Lp]
section
variable (a0:ah)(a1:Int)
abbrev Ny(a0:ah)(a1:Int)(r:Bool):bm×HP:=(.ret (.b r),H0)
def lh:Option Bool:=
 if 0≤a1 then
  some (decide (a1<a0.Many))
 else
  some false
theorem nK(r:Bool)(h:lh a0 a1=some r):call G Ω0 E0 119 [(.a [(I a0.Many),(.l 166 (a0.Grants.map aE))]),(I a1)] H0=some (Ny a0 a1 r):=
 aW aiM (.or (bt<|bt<|bt<|bt<|bt<|bt<|.nil) (TA<|.nil)) fun L=>ai tt<|bL h (fun h1 h=>cU (av h1)<|ai (rfl:Z0)<|lK (av h1)<|L h) (fun h1 h=>cU (aw h1)<|lK (aw h1)<|L h)
end
section
variable (a0:cB)(a1:ah)
abbrev FO(a0:cB)(a1:ah)(r:Bool):bm×HP:=(.ret (.b r),H0)
def lO:Option Bool:=
 (lh a1 a0.Who).bind fun (r1:Bool)=>
 if r1=true then
  (lh a1 a0.For).bind fun (r4:Bool)=>
  some (!r4)
 else
  some true
theorem Cm(r:Bool)(h:lO a0 a1=some r):call G Ω0 E0 153 [(.a [(I a0.Who),(I a0.For)]),(.e (.a [(I a1.Many),(.l 166 (a1.Grants.map aE))]) 0)] H0=some (FO a0 a1 r):=
 aW ai4 (bt<|xB fun r1=>.or (pj<|xB fun r4=>vV<|.nil) (TB<|.nil)) fun L=>et<|aU h (nK a1 a0.Who) fun r1 h=>bz h (fun h3 h=>eD (ak not h3)<|ai (rfl:Z0)<|ai (g0 (ak not h3))<|aU h (nK a1 a0.For) fun r4 h=>lJ (ak not h3)<|L h) (fun h3 h=>Tu (ak not h3)<|L h)
end
section
variable (a0:(List cB))(a1:ah)
def jM(v0_8:Nat):Option (Nat⊕(Nat⊕(Nat×Bool))):=
 if (v0_8:Int)<(a0.length:Int) then
  (a0[v0_8]?).bind fun (y2:cB)=>
  (lO y2 a1).bind fun (r4:Bool)=>
  if r4=true then
   some (.inr (.inl v0_8))
  else
   if IntKind.i64.wrap ((v0_8:Int)+1)=((v0_8+1:Nat):Int) then
    some (.inl (v0_8+1))
   else none
 else
  some (.inr (.inr (v0_8,decide ((v0_8:Int)<(a0.length:Int)))))
abbrev qz(v:Nat):St:=⟨[(0,(.l 166 (a0.map aE))),(1,(.f 153 [(.e (.a [(I a1.Many),(.l 166 (a1.Grants.map aE))]) 0)])),(7,(I (a0.length:Int))),(8,(I (v:Int)))],[],H0⟩
abbrev ft(x:(Nat⊕(Nat×Bool))):aH×St:=match x with | .inl z1=>(.ret,⟨[(4,(I (z1:Int)))],[],H0⟩) | .inr (z1,z2)=>((.ex 0),⟨[(0,(.l 166 (a0.map aE))),(1,(.f 153 [(.e (.a [(I a1.Many),(.l 166 (a1.Grants.map aE))]) 0)])),(7,(I (a0.length:Int))),(8,(I (z1:Int))),(9,(.b z2))],[],H0⟩)
theorem pI(v0_8:Nat)(o:Nat⊕(Nat⊕(Nat×Bool)))(h:jM a0 a1 v0_8=some o):bu E0 Q1 (qz a0 a1) (ft a0 a1) v0_8 o:=
 bH (.or (bt<|ao (.n v0_8)<|.ex fun (y2:cB)=>ao (.v (.a [(I y2.Who),(I y2.For)]))<|xB fun r4=>oN (ao (.i ((v0_8+1:Nat):Int))<|.nil)) (bf<|.nil)) fun L=>bL h (fun h1 h=>ai (av h1)<|ai (rI v0_8)<|cb h fun y2 h3 h=>ai (aD aE h3)<|aU h (Cm y2 a1) fun r4 h=>bz h (fun h6 h=>ai h6<|L h) (fun h6 h=>ai h6<|aQ h fun w7 h=>ai w7<|L h)) (fun h1 h=>ai (aw h1)<|L h)
abbrev rZ(a0:(List cB))(a1:ah)(r:Int):bm×HP:=(.ret (I r),H0)
def kC:Option Int:=
 (lp (fun v=>jM a0 a1 v) 0).bind fun (x1:(Nat⊕(Nat×Bool)))=>match x1 with
 | .inl ya_2=>
  some (ya_2:Int)
 | .inr yb_2=>
  some (-1)
theorem pJ(r:Int)(h:kC a0 a1=some r):call G Ω0 E0 166 [(.l 166 (a0.map aE)),(.f 153 [(.e (.a [(I a1.Many),(.l 166 (a1.Grants.map aE))]) 0)])] H0=some (rZ a0 a1 r):=
 aW aja (ao (.i (a0.length:Int))<|.or (.ex fun (ya_2:Nat)=>ao (.bT (ft a0 a1 (.inl ya_2)))<|.nil) (.ex fun (yb_2:(Nat×Bool))=>ao (.bT (ft a0 a1 (.inr yb_2)))<|.nil)) fun L=>ai (aC aE a0)<|dA h (ei (pI a0 a1) 0) (fun ya_2 h=>L h) (fun yb_2 h=>L h)
abbrev pK(a0:(List cB))(a1:ah)(r:Bool):bm×HP:=(.ret (.b r),H0)
def eZ:Option Bool:=
 (kC a0 a1).bind fun (r1:Int)=>
 some (decide (0≤r1))
theorem ox(r:Bool)(h:eZ a0 a1=some r):call G Ω0 E0 152 [(.l 166 (a0.map aE)),(.f 153 [(.e (.a [(I a1.Many),(.l 166 (a1.Grants.map aE))]) 0)])] H0=some (pK a0 a1 r):=
 aW ai3 (xI fun r1=>.nil) fun L=>aU h (pJ a0 a1) fun r1 h=>L h
end
section
variable (a0:ah)
abbrev IT(a0:ah)(r:Int):bm×HP:=(.ret (I r),H0)
def rj:Option Int:=
 if a0.Many<1 then
  some 3
 else
  if 6<a0.Many then
   some 3
  else
   if 20<(a0.Grants.length:Int) then
    some 2
   else
    (eZ a0.Grants a0).bind fun (r4:Bool)=>
    if r4=true then
     some 5
    else
     some 0
theorem EN(r:Int)(h:rj a0=some r):call G Ω0 E0 128 [(.a [(I a0.Many),(.l 166 (a0.Grants.map aE))])] H0=some (IT a0 r):=
 aW aiQ (bt<|.or (bf<|bf<|bf<|bt<|bt<|.nil) (Tz<|oN (bt<|ao (.i (a0.Grants.length:Int))<|oN (xB fun r4=>oN (.nil))))) fun L=>et<|bL h (fun h1 h=>eD (av h1)<|ai (av h1)<|ai tt<|L h) (fun h1 h=>ev6 (aw h1)<|bL h (fun h2 h=>ai (av h2)<|L h) (fun h2 h=>nI (aw h2)<|ai (aC aE a0.Grants)<|bL h (fun h3 h=>ai (av h3)<|L h) (fun h3 h=>nI (aw h3)<|aU h (ox a0.Grants a0) fun r4 h=>bz h (fun h6 h=>ai h6<|L h) (fun h6 h=>ai h6<|L h))))
end
section
variable (a0:Int)(a1:Program)
abbrev IU(a0:Int)(a1:Program)(r:Bool):bm×HP:=(.ret (.b r),H0)
def rk:Option Bool:=
 (lh a1.ah a0).bind fun (r1:Bool)=>
 some (!r1)
theorem EO(r:Bool)(h:rk a0 a1=some r):call G Ω0 E0 132 [(I a0),(.e (.a (ar a1)) 0)] H0=some (IU a0 a1 r):=
 aW aiS (xB fun r1=>.nil) fun L=>aU h (nK a1.ah a0) fun r1 h=>L h
end
section
variable (a0:(List Int))(a1:Program)
def kD(v0_8:Nat):Option (Nat⊕(Nat⊕(Nat×Bool))):=
 if (v0_8:Int)<(a0.length:Int) then
  (a0[v0_8]?).bind fun (y2:Int)=>
  (rk y2 a1).bind fun (r4:Bool)=>
  if r4=true then
   some (.inr (.inl v0_8))
  else
   if IntKind.i64.wrap ((v0_8:Int)+1)=((v0_8+1:Nat):Int) then
    some (.inl (v0_8+1))
   else none
 else
  some (.inr (.inr (v0_8,decide ((v0_8:Int)<(a0.length:Int)))))
abbrev sa(v:Nat):St:=⟨[(0,(.l 3 (a0.map (I)))),(1,(.f 132 [(.e (.a (ar a1)) 0)])),(7,(I (a0.length:Int))),(8,(I (v:Int)))],[],H0⟩
abbrev gv(x:(Nat⊕(Nat×Bool))):aH×St:=match x with | .inl z1=>(.ret,⟨[(4,(I (z1:Int)))],[],H0⟩) | .inr (z1,z2)=>((.ex 0),⟨[(0,(.l 3 (a0.map (I)))),(1,(.f 132 [(.e (.a (ar a1)) 0)])),(7,(I (a0.length:Int))),(8,(I (z1:Int))),(9,(.b z2))],[],H0⟩)
theorem rl(v0_8:Nat)(o:Nat⊕(Nat⊕(Nat×Bool)))(h:kD a0 a1 v0_8=some o):bu E0 GL (sa a0 a1) (gv a0 a1) v0_8 o:=
 bH (.or (bt<|ao (.n v0_8)<|xI fun y2=>xB fun r4=>oN (ao (.i ((v0_8+1:Nat):Int))<|.nil)) (bf<|.nil)) fun L=>bL h (fun h1 h=>ai (av h1)<|ai (rI v0_8)<|cb h fun y2 h3 h=>ai (aD (I) h3)<|aU h (EO y2 a1) fun r4 h=>bz h (fun h6 h=>ai h6<|L h) (fun h6 h=>ai h6<|aQ h fun w7 h=>ai w7<|L h)) (fun h1 h=>ai (aw h1)<|L h)
abbrev tc(a0:(List Int))(a1:Program)(r:Int):bm×HP:=(.ret (I r),H0)
def lP:Option Int:=
 (lp (fun v=>kD a0 a1 v) 0).bind fun (x1:(Nat⊕(Nat×Bool)))=>match x1 with
 | .inl ya_2=>
  some (ya_2:Int)
 | .inr yb_2=>
  some (-1)
theorem rm(r:Int)(h:lP a0 a1=some r):call G Ω0 E0 143 [(.l 3 (a0.map (I))),(.f 132 [(.e (.a (ar a1)) 0)])] H0=some (tc a0 a1 r):=
 aW Tk (ao (.i (a0.length:Int))<|.or (.ex fun (ya_2:Nat)=>ao (.bT (gv a0 a1 (.inl ya_2)))<|.nil) (.ex fun (yb_2:(Nat×Bool))=>ao (.bT (gv a0 a1 (.inr yb_2)))<|.nil)) fun L=>ai (aC (I) a0)<|dA h (ei (rl a0 a1) 0) (fun ya_2 h=>L h) (fun yb_2 h=>L h)
abbrev rn(a0:(List Int))(a1:Program)(r:Bool):bm×HP:=(.ret (.b r),H0)
def fQ:Option Bool:=
 (lP a0 a1).bind fun (r1:Int)=>
 some (decide (0≤r1))
theorem oY(r:Bool)(h:fQ a0 a1=some r):call G Ω0 E0 105 [(.l 3 (a0.map (I))),(.f 132 [(.e (.a (ar a1)) 0)])] H0=some (rn a0 a1 r):=
 aW Tj (xI fun r1=>.nil) fun L=>aU h (rm a0 a1) fun r1 h=>L h
end
section
variable (a0:(List (List Label)))
def dH(v0_3:Int)(v0_11:Nat):Option ((Int×Nat)⊕(Int×Nat×Bool)):=
 if (v0_11:Int)<(a0.length:Int) then
  (a0[v0_11]?).bind fun (y2:(List Label))=>
  if IntKind.i64.wrap (v0_3+(y2.length:Int))=v0_3+(y2.length:Int) then
   if (v0_3+(y2.length:Int))<0 then
    none
   else
    if IntKind.i64.wrap ((v0_11:Int)+1)=((v0_11+1:Nat):Int) then
     some (.inl (v0_3+(y2.length:Int),v0_11+1))
    else none
  else none
 else
  some (.inr (v0_3,v0_11,decide ((v0_11:Int)<(a0.length:Int))))
abbrev v7(v:(Int×Nat)):St:=⟨[(0,(.l 26 (a0.map (eg 81 az)))),(3,(I v.1)),(9,(.l 26 (a0.map (eg 81 az)))),(10,(I (a0.length:Int))),(11,(I (v.2:Int)))],[],H0⟩
abbrev nZ(x:(Int×Nat×Bool)):aH×St:=((.ex 0),⟨[(0,(.l 26 (a0.map (eg 81 az)))),(3,(I x.1)),(9,(.l 26 (a0.map (eg 81 az)))),(10,(I (a0.length:Int))),(11,(I (x.2.1:Int))),(12,(.b x.2.2))],[],H0⟩)
theorem u5(v0_3:Int)(v0_11:Nat)(o:(Int×Nat)⊕(Int×Nat×Bool))(h:dH a0 v0_3 v0_11=some o):bu E0 QR (v7 a0) (nZ a0) (v0_3,v0_11) o:=
 bH (.or (bt<|ao (.n v0_11)<|.ex fun (y2:(List Label))=>ao (.v (.l 81 (y2.map az)))<|ao (.i (y2.length:Int))<|ao (.i (v0_3+(y2.length:Int)))<|bf<|ao (.i ((v0_11+1:Nat):Int))<|.nil) (bf<|.nil)) fun L=>bL h (fun h1 h=>ai (av h1)<|ai (rI v0_11)<|cb h fun y2 h3 h=>ai (aD (eg 81 az) h3)<|ai (aC az y2)<|aQ h fun w4 h=>ai w4<|Ts h (fun _ h=>agG h) (fun h5 h=>ai (aw h5)<|aQ h fun w6 h=>ai w6<|L h)) (fun h1 h=>ai (aw h1)<|L h)
def dI(v1_6:(List Label))(v1_27:Nat):Option (((List Label)×Nat)⊕((List Label)×Nat×Bool)):=
 if (v1_27:Int)<(a0.length:Int) then
  (a0[v1_27]?).bind fun (y5:(List Label))=>
  if v1_6.length+y5.length≤1000000000 then
   if IntKind.i64.wrap ((v1_27:Int)+1)=((v1_27+1:Nat):Int) then
    some (.inl (v1_6++y5,v1_27+1))
   else none
  else none
 else
  some (.inr (v1_6,v1_27,decide ((v1_27:Int)<(a0.length:Int))))
abbrev v8(v:((List Label)×Nat)):St:=⟨[(6,(.o 81 (v.1.map az))),(25,(.l 26 (a0.map (eg 81 az)))),(26,(I (a0.length:Int))),(27,(I (v.2:Int)))],[],H0⟩
abbrev n4(x:((List Label)×Nat×Bool)):aH×St:=((.ex 2),⟨[(6,(.o 81 (x.1.map az))),(25,(.l 26 (a0.map (eg 81 az)))),(26,(I (a0.length:Int))),(27,(I (x.2.1:Int))),(28,(.b x.2.2))],[],H0⟩)
theorem u6(v1_6:(List Label))(v1_27:Nat)(o:((List Label)×Nat)⊕((List Label)×Nat×Bool))(h:dI a0 v1_6 v1_27=some o):bu E0 QS (v8 a0) (n4 a0) (v1_6,v1_27) o:=
 bH (.or (bt<|ao (.n v1_27)<|.ex fun (y5:(List Label))=>ao (.v (.l 81 (y5.map az)))<|ao (.l ((v1_6++y5).map az))<|ao (.i ((v1_27+1:Nat):Int))<|.nil) (bf<|.nil)) fun L=>bL h (fun h4 h=>ai (av h4)<|ai (rI v1_27)<|cb h fun y5 h6 h=>ai (aD (eg 81 az) h6)<|ai ff<|aQ h fun h7 h=>ai ((jF az (n:=2) (fun _=>rfl) y5):(y5.map az).all (fun e=>e.nc==2)=true)<|ai ((nr h7 (by decide)):((v1_6.map az).length+(y5.map az).length)*48≤140737488355328)<|ai ((nu h7):(v1_6.map az).length+(y5.map az).length≤maxLen)<|ai (dc.symm:v1_6.map az++y5.map az=(v1_6++y5).map az)<|aQ h fun w8 h=>ai w8<|L h) (fun h4 h=>ai (aw h4)<|L h)
abbrev xt(a0:(List (List Label)))(r:(List Label)):bm×HP:=(.ret (.l 81 (r.map az)),H0)
def iy:Option (List Label):=
 (lp (fun v=>dH a0 v.1 v.2) (0,0)).bind fun (x1:(Int×Nat×Bool))=>
 if 0≤x1.1∧x1.1≤1000000 then
  (lp (fun v=>dI a0 v.1 v.2) (([]:List Label),0)).bind fun (x4:((List Label)×Nat×Bool))=>
  some x4.1
 else none
theorem u7(r:(List Label))(h:iy a0=some r):call G Ω0 E0 133 [(.l 26 (a0.map (eg 81 az)))] H0=some (xt a0 r):=
 aW aiT (ao (.i (a0.length:Int))<|.ex fun (x1:(Int×Nat×Bool))=>ao (.bT (nZ a0 x1))<|ao (.i (a0.length:Int))<|.ex fun (x4:((List Label)×Nat×Bool))=>ao (.bT (n4 a0 x4))<|.nil) fun L=>ai (aC (eg 81 az) a0)<|aU h (ei (fun v=>u5 a0 v.1 v.2) (0,0)) fun x1 h=>aQ h fun h3 h=>ai (Tt h3:Ω0 155 [.n,(I x1.1)]=some (.o 81 []))<|ai (aC (eg 81 az) a0)<|aU h (ei (fun v=>u6 a0 v.1 v.2) (([]:List Label),0)) fun x4 h=>L h
end
section
variable (a0:Int)(a1:ah)
abbrev FP(a0:Int)(a1:ah)(r:Bool):bm×HP:=(.ret (.b r),H0)
def oy:Option Bool:=
 (lh a1 a0).bind fun (r1:Bool)=>
 some (!r1)
theorem Cn(r:Bool)(h:oy a0 a1=some r):call G Ω0 E0 167 [(I a0),(.e (.a [(I a1.Many),(.l 166 (a1.Grants.map aE))]) 0)] H0=some (FP a0 a1 r):=
 aW ajb (xB fun r1=>.nil) fun L=>aU h (nK a1 a0) fun r1 h=>L h
end
section
variable (a0:(List Int))(a1:ah)
def jN(v0_8:Nat):Option (Nat⊕(Nat⊕(Nat×Bool))):=
 if (v0_8:Int)<(a0.length:Int) then
  (a0[v0_8]?).bind fun (y2:Int)=>
  (oy y2 a1).bind fun (r4:Bool)=>
  if r4=true then
   some (.inr (.inl v0_8))
  else
   if IntKind.i64.wrap ((v0_8:Int)+1)=((v0_8+1:Nat):Int) then
    some (.inl (v0_8+1))
   else none
 else
  some (.inr (.inr (v0_8,decide ((v0_8:Int)<(a0.length:Int)))))
abbrev qA(v:Nat):St:=⟨[(0,(.l 3 (a0.map (I)))),(1,(.f 167 [(.e (.a [(I a1.Many),(.l 166 (a1.Grants.map aE))]) 0)])),(7,(I (a0.length:Int))),(8,(I (v:Int)))],[],H0⟩
abbrev fu(x:(Nat⊕(Nat×Bool))):aH×St:=match x with | .inl z1=>(.ret,⟨[(4,(I (z1:Int)))],[],H0⟩) | .inr (z1,z2)=>((.ex 0),⟨[(0,(.l 3 (a0.map (I)))),(1,(.f 167 [(.e (.a [(I a1.Many),(.l 166 (a1.Grants.map aE))]) 0)])),(7,(I (a0.length:Int))),(8,(I (z1:Int))),(9,(.b z2))],[],H0⟩)
theorem pL(v0_8:Nat)(o:Nat⊕(Nat⊕(Nat×Bool)))(h:jN a0 a1 v0_8=some o):bu E0 GL (qA a0 a1) (fu a0 a1) v0_8 o:=
 bH (.or (bt<|ao (.n v0_8)<|xI fun y2=>xB fun r4=>oN (ao (.i ((v0_8+1:Nat):Int))<|.nil)) (bf<|.nil)) fun L=>bL h (fun h1 h=>ai (av h1)<|ai (rI v0_8)<|cb h fun y2 h3 h=>ai (aD (I) h3)<|aU h (Cn y2 a1) fun r4 h=>bz h (fun h6 h=>ai h6<|L h) (fun h6 h=>ai h6<|aQ h fun w7 h=>ai w7<|L h)) (fun h1 h=>ai (aw h1)<|L h)
abbrev sb(a0:(List Int))(a1:ah)(r:Int):bm×HP:=(.ret (I r),H0)
def kE:Option Int:=
 (lp (fun v=>jN a0 a1 v) 0).bind fun (x1:(Nat⊕(Nat×Bool)))=>match x1 with
 | .inl ya_2=>
  some (ya_2:Int)
 | .inr yb_2=>
  some (-1)
theorem pM(r:Int)(h:kE a0 a1=some r):call G Ω0 E0 143 [(.l 3 (a0.map (I))),(.f 167 [(.e (.a [(I a1.Many),(.l 166 (a1.Grants.map aE))]) 0)])] H0=some (sb a0 a1 r):=
 aW Tk (ao (.i (a0.length:Int))<|.or (.ex fun (ya_2:Nat)=>ao (.bT (fu a0 a1 (.inl ya_2)))<|.nil) (.ex fun (yb_2:(Nat×Bool))=>ao (.bT (fu a0 a1 (.inr yb_2)))<|.nil)) fun L=>ai (aC (I) a0)<|dA h (ei (pL a0 a1) 0) (fun ya_2 h=>L h) (fun yb_2 h=>L h)
abbrev pN(a0:(List Int))(a1:ah)(r:Bool):bm×HP:=(.ret (.b r),H0)
def e7:Option Bool:=
 (kE a0 a1).bind fun (r1:Int)=>
 some (decide (0≤r1))
theorem oz(r:Bool)(h:e7 a0 a1=some r):call G Ω0 E0 105 [(.l 3 (a0.map (I))),(.f 167 [(.e (.a [(I a1.Many),(.l 166 (a1.Grants.map aE))]) 0)])] H0=some (pN a0 a1 r):=
 aW Tj (xI fun r1=>.nil) fun L=>aU h (pM a0 a1) fun r1 h=>L h
end
section
variable (a1:br)(a0:ah)
def fv(v0_5:Nat):Option (Nat⊕(Unit⊕(Nat×Bool))):=
 if (v0_5:Int)<(a1.Names.length:Int) then
  (a1.Names[v0_5]?).bind fun (y9:Int)=>
  if IntKind.i64.wrap ((v0_5:Int) - 1)=(v0_5:Int) - 1 then
   (eI ((v0_5:Int) - 1)).bind fun (j12:Nat)=>
   (a1.Names[j12]?).bind fun (y14:Int)=>
   if y9≤y14 then
    some (.inr (.inl ()))
   else
    if IntKind.i64.wrap ((v0_5:Int)+1)=((v0_5+1:Nat):Int) then
     some (.inl (v0_5+1))
    else none
  else none
 else
  some (.inr (.inr (v0_5,decide ((v0_5:Int)<(a1.Names.length:Int)))))
abbrev FQ(v:Nat):St:=⟨[(3,(.p ⟨0,3⟩ 0)),(5,(I (v:Int)))],[(3,[(I a1.Owner),(.l 3 (a1.Names.map (I)))])],H0⟩
abbrev td(x:(Unit⊕(Nat×Bool))):aH×St:=match x with | .inl ()=>(.ret,⟨[(4,(I 4))],[],H0⟩) | .inr (z1,z2)=>((.ex 1),⟨[(3,(.p ⟨0,3⟩ 0)),(5,(I (z1:Int))),(26,(.b z2))],[(3,[(I a1.Owner),(.l 3 (a1.Names.map (I)))])],H0⟩)
theorem EP(v0_5:Nat)(o:Nat⊕(Unit⊕(Nat×Bool)))(h:fv a1 v0_5=some o):bu E0 QY (FQ a1) (td a1) v0_5 o:=
 bH (bt<|ao (.i (a1.Names.length:Int))<|.or (dG<|ao (.n v0_5)<|xI fun y9=>bt<|ao (.i ((v0_5:Int) - 1))<|xN fun j12=>xI fun y14=>oN (ao (.i ((v0_5+1:Nat):Int))<|.nil)) (bf<|.nil)) fun L=>ai (rfl:Z0)<|ai (aC (I) a1.Names)<|bL h (fun h8 h=>Pz (av h8)<|ai (rI v0_5)<|cb h fun y9 h10 h=>ai (aD (I) h10)<|bW<|et<|bW<|aQ h fun w11 h=>ai w11<|ai tt<|ou h fun j12 h13 h=>ai h13<|cb h fun y14 h15 h=>ai (aD (I) h15)<|bW<|bL h (fun h16 h=>ai (av h16)<|L h) (fun h16 h=>ai (aw h16)<|aQ h fun w17 h=>ai w17<|L h)) (fun h8 h=>ai (aw h8)<|L h)
abbrev IV(a0:ah)(a1:br)(r:Int):bm×HP:=(.ret (I r),H0)
def rp(a1:br):Option Int:=
 (lh a0 a1.Owner).bind fun (r1:Bool)=>
 if r1=true then
  if 6<(a1.Names.length:Int) then
   some 2
  else
   (e7 a1.Names a0).bind fun (r5:Bool)=>
   if r5=true then
    some 5
   else
    (lp (fun v=>fv a1 v) 1).bind fun (x8:(Unit⊕(Nat×Bool)))=>match x8 with
    | .inl ya_9=>
     some 4
    | .inr yb_9=>
     some 0
 else
  some 5
theorem ER(a1:br)(r:Int)(h:rp a0 a1=some r):call G Ω0 E0 154 [(.a [(I a0.Many),(.l 166 (a0.Grants.map aE))]),(.a [(I a1.Owner),(.l 3 (a1.Names.map (I)))])] H0=some (IV a0 a1 r):=
 aW ai5 (dG<|xB fun r1=>.or (bf<|bt<|ao (.i (a1.Names.length:Int))<|oN (bt<|xB fun r5=>oN (.or (.ex fun (ya_9:Unit)=>ao (.bT (td a1 (.inl ya_9)))<|.nil) (.ex fun (yb_9:(Nat×Bool))=>ao (.bT (td a1 (.inr yb_9)))<|.nil)))) (bt<|.nil)) fun L=>Iz<|aU h (nK a0 a1.Owner) fun r1 h=>bz h (fun h3 h=>nI (ak not h3)<|ai (aC (I) a1.Names)<|bL h (fun h4 h=>ai (av h4)<|L h) (fun h4 h=>IA (aw h4)<|aU h (oz a1.Names a0) fun r5 h=>bz h (fun h7 h=>ai h7<|L h) (fun h7 h=>ai h7<|dA h (ei (EP a1) 1) (fun ya_9 h=>L h) (fun yb_9 h=>L h)))) (fun h3 h=>ai (ak not h3)<|L h)
end
section
variable (a0:ah)(a1:Label)
def im(a1:Label)(v0_16:Nat)(y2:(List br))(v1_25:Nat):Option (Nat⊕(Int⊕(Nat×Bool))):=
 if (v1_25:Int)<(y2.length:Int) then
  (y2[v1_25]?).bind fun (y6:br)=>
  (rp a0 y6).bind fun (r8:Int)=>
  if (r8 !=0)=true then
   some (.inr (.inl r8))
  else
   if IntKind.i64.wrap ((v1_25:Int)+1)=((v1_25+1:Nat):Int) then
    some (.inl (v1_25+1))
   else none
 else
  some (.inr (.inr (v1_25,decide ((v1_25:Int)<(y2.length:Int)))))
abbrev IW(v0_16:Nat)(y2:(List br))(v:Nat):St:=⟨[(2,(.p ⟨0,2⟩ 0)),(14,(.l 79 (([a1.Read,a1.Write]).map (eg 138 aF)))),(15,(I ((([a1.Read,a1.Write]).length:Nat):Int))),(16,(I (v0_16:Int))),(23,(.l 138 (y2.map aF))),(24,(I (y2.length:Int))),(25,(I (v:Int)))],[(2,[(I a0.Many),(.l 166 (a0.Grants.map aE))])],H0⟩
abbrev u9(v0_16:Nat)(y2:(List br))(x:(Int⊕(Nat×Bool))):aH×St:=match x with | .inl z1=>(.ret,⟨[(4,(I z1))],[],H0⟩) | .inr (z1,z2)=>((.ex 2),⟨[(2,(.p ⟨0,2⟩ 0)),(14,(.l 79 (([a1.Read,a1.Write]).map (eg 138 aF)))),(15,(I ((([a1.Read,a1.Write]).length:Nat):Int))),(16,(I (v0_16:Int))),(23,(.l 138 (y2.map aF))),(24,(I (y2.length:Int))),(25,(I (z1:Int))),(26,(.b z2))],[(2,[(I a0.Many),(.l 166 (a0.Grants.map aE))])],H0⟩)
theorem Hd(v0_16:Nat)(y2:(List br))(v1_25:Nat)(o:Nat⊕(Int⊕(Nat×Bool)))(h:im a0 a1 v0_16 y2 v1_25=some o):bu E0 QP (IW a0 a1 v0_16 y2) (u9 a0 a1 v0_16 y2) v1_25 o:=
 bH (.or (bt<|ao (.n v1_25)<|.ex fun (y6:br)=>ao (.v (.a [(I y6.Owner),(.l 3 (y6.Names.map (I)))]))<|mD<|xI fun r8=>oN (ao (.i ((v1_25+1:Nat):Int))<|.nil)) (bf<|.nil)) fun L=>bL h (fun h5 h=>ai (av h5)<|ai (rI v1_25)<|cb h fun y6 h7 h=>ai (aD aF h7)<|ai tt<|lL<|et<|uT<|aU h (ER a0 y6) fun r8 h=>bz h (fun h10 h=>ai h10<|L h) (fun h10 h=>ai h10<|aQ h fun w11 h=>ai w11<|L h)) (fun h5 h=>ai (aw h5)<|L h)
def cA(v0_16:Nat):Option (Nat⊕(Unit⊕(Int⊕(Nat×Bool)))):=
 if (v0_16:Int)<((([a1.Read,a1.Write]).length:Nat):Int) then
  (([a1.Read,a1.Write])[v0_16]?).bind fun (y2:(List br))=>
  if 4<(y2.length:Int) then
   some (.inr (.inl ()))
  else
   (lp (fun v=>im a0 a1 v0_16 y2 v) 0).bind fun (x5:(Int⊕(Nat×Bool)))=>match x5 with
   | .inl ya_6=>
    some (.inr (.inr (.inl ya_6)))
   | .inr yb_6=>
    if IntKind.i64.wrap ((v0_16:Int)+1)=((v0_16+1:Nat):Int) then
     some (.inl (v0_16+1))
    else none
 else
  some (.inr (.inr (.inr (v0_16,decide ((v0_16:Int)<((([a1.Read,a1.Write]).length:Nat):Int))))))
abbrev IX(v:Nat):St:=⟨[(2,(.p ⟨0,2⟩ 0)),(14,(.l 79 (([a1.Read,a1.Write]).map (eg 138 aF)))),(15,(I ((([a1.Read,a1.Write]).length:Nat):Int))),(16,(I (v:Int)))],[(2,[(I a0.Many),(.l 166 (a0.Grants.map aE))])],H0⟩
abbrev rq(x:(Unit⊕(Int⊕(Nat×Bool)))):aH×St:=match x with | .inl ()=>(.ret,⟨[(4,(I 2))],[],H0⟩) | .inr (.inl z1)=>(.ret,⟨[(4,(I z1))],[],H0⟩) | .inr (.inr (z1,z2))=>((.ex 0),⟨[(2,(.p ⟨0,2⟩ 0)),(14,(.l 79 (([a1.Read,a1.Write]).map (eg 138 aF)))),(15,(I ((([a1.Read,a1.Write]).length:Nat):Int))),(16,(I (z1:Int))),(17,(.b z2))],[(2,[(I a0.Many),(.l 166 (a0.Grants.map aE))])],H0⟩)
theorem He(v0_16:Nat)(o:Nat⊕(Unit⊕(Int⊕(Nat×Bool))))(h:cA a0 a1 v0_16=some o):bu E0 QQ (IX a0 a1) (rq a0 a1) v0_16 o:=
 bH (.or (bt<|ao (.n v0_16)<|.ex fun (y2:(List br))=>ao (.v (.l 138 (y2.map aF)))<|ao (.i (y2.length:Int))<|oN (ao (.i (y2.length:Int))<|.or (.ex fun (ya_6:Int)=>ao (.bT (u9 a0 a1 v0_16 y2 (.inl ya_6)))<|.nil) (.ex fun (yb_6:(Nat×Bool))=>ao (.bT (u9 a0 a1 v0_16 y2 (.inr yb_6)))<|ao (.i ((v0_16+1:Nat):Int))<|.nil))) (bf<|.nil)) fun L=>bL h (fun h1 h=>ai (av h1)<|ai (rI v0_16)<|cb h fun y2 h3 h=>ai (aD (eg 138 aF) h3)<|ai (aC aF y2)<|bL h (fun h4 h=>ai (av h4)<|L h) (fun h4 h=>ai (aw h4)<|ai (aC aF y2)<|dA h (ei (Hd a0 a1 v0_16 y2) 0) (fun ya_6 h=>L h) (fun yb_6 h=>aQ h fun w8 h=>ai w8<|L h))) (fun h1 h=>ai (aw h1)<|L h)
abbrev Mf(a0:ah)(a1:Label)(r:Int):bm×HP:=(.ret (I r),H0)
def qB:Option Int:=
 (lp (fun v=>cA a0 a1 v) 0).bind fun (x1:(Unit⊕(Int⊕(Nat×Bool))))=>match x1 with
 | .inl ya_2=>
  some 2
 | .inr (.inl yb_2)=>
  some yb_2
 | .inr (.inr yc_2)=>
  some 0
theorem zM(r:Int)(h:qB a0 a1=some r):call G Ω0 E0 129 [(.a [(I a0.Many),(.l 166 (a0.Grants.map aE))]),(.a [(.l 138 (a1.Read.map aF)),(.l 138 (a1.Write.map aF))])] H0=some (Mf a0 a1 r):=
 aW aiR (dG<|ao (.l (([a1.Read,a1.Write]).map (eg 138 aF)))<|ao (.i ((([a1.Read,a1.Write]).length:Nat):Int))<|.or (.ex fun (ya_2:Unit)=>ao (.bT (rq a0 a1 (.inl ya_2)))<|.nil) (.or (.ex fun (yb_2:Int)=>ao (.bT (rq a0 a1 (.inr (.inl yb_2))))<|.nil) (.ex fun (yc_2:(Nat×Bool))=>ao (.bT (rq a0 a1 (.inr (.inr yc_2))))<|.nil))) fun L=>Iz<|ai (rfl:[(.l 138 (a1.Read.map aF)),(.l 138 (a1.Write.map aF))]=([a1.Read,a1.Write]).map (eg 138 aF))<|ai (aC (eg 138 aF) ([a1.Read,a1.Write]))<|Px h (ei (He a0 a1) 0) (fun ya_2 h=>L h) (fun yb_2 h=>L h) (fun yc_2 h=>L h)
end
section
variable (a0:Var)
abbrev IY(a0:Var)(r:Bool):bm×HP:=(.ret (.b r),H0)
def rr:Option Bool:=
 if a0.Known=true then
  some false
 else
  if IntKind.i64.wrap ((a0.Label.Read.length:Int)+(a0.Label.Write.length:Int))=(a0.Label.Read.length:Int)+(a0.Label.Write.length:Int) then
   some (decide (0<((a0.Label.Read.length:Int)+(a0.Label.Write.length:Int))))
  else none
theorem ES(r:Bool)(h:rr a0=some r):call G Ω0 E0 135 [(.a (De a0))] H0=some (IY a0 r):=
 aW aiV (bt<|.or (bf<|bf<|bf<|bf<|bf<|bf<|bf<|bf<|bf<|bf<|bf<|.nil) (pj<|ao (.i (a0.Label.Read.length:Int))<|pj<|ao (.i (a0.Label.Write.length:Int))<|bt<|ao (.i ((a0.Label.Read.length:Int)+(a0.Label.Write.length:Int)))<|dG<|.nil)) fun L=>et<|bz h (fun h1 h=>cU (ak not h1)<|cU (ak not h1)<|cU (ak not h1)<|lK (ak not h1)<|L h) (fun h1 h=>cU (ak not h1)<|ai (rfl:Z0)<|ai (g1 (ak not h1))<|ai (aC aF a0.Label.Read)<|cU (ak not h1)<|ai (rfl:Z0)<|ai (g1 (ak not h1))<|ai (aC aF a0.Label.Write)<|ai (g1 (ak not h1))<|aQ h fun w2 h=>ai w2<|lK (ak not h1)<|L h)
end
section
variable (a0:(List Var))
def kG(v0_8:Nat):Option (Nat⊕(Nat⊕(Nat×Bool))):=
 if (v0_8:Int)<(a0.length:Int) then
  (a0[v0_8]?).bind fun (y2:Var)=>
  (rr y2).bind fun (r4:Bool)=>
  if r4=true then
   some (.inr (.inl v0_8))
  else
   if IntKind.i64.wrap ((v0_8:Int)+1)=((v0_8+1:Nat):Int) then
    some (.inl (v0_8+1))
   else none
 else
  some (.inr (.inr (v0_8,decide ((v0_8:Int)<(a0.length:Int)))))
abbrev sc(v:Nat):St:=⟨[(0,(.l 83 (a0.map cn))),(1,(.f 135 [])),(7,(I (a0.length:Int))),(8,(I (v:Int)))],[],H0⟩
abbrev gw(x:(Nat⊕(Nat×Bool))):aH×St:=match x with | .inl z1=>(.ret,⟨[(4,(I (z1:Int)))],[],H0⟩) | .inr (z1,z2)=>((.ex 0),⟨[(0,(.l 83 (a0.map cn))),(1,(.f 135 [])),(7,(I (a0.length:Int))),(8,(I (z1:Int))),(9,(.b z2))],[],H0⟩)
theorem rv(v0_8:Nat)(o:Nat⊕(Nat⊕(Nat×Bool)))(h:kG a0 v0_8=some o):bu E0 QZ (sc a0) (gw a0) v0_8 o:=
 bH (.or (bt<|ao (.n v0_8)<|.ex fun (y2:Var)=>ao (.v (.a (De y2)))<|xB fun r4=>oN (ao (.i ((v0_8+1:Nat):Int))<|.nil)) (bf<|.nil)) fun L=>bL h (fun h1 h=>ai (av h1)<|ai (rI v0_8)<|cb h fun y2 h3 h=>ai (aD cn h3)<|aU h (ES y2) fun r4 h=>bz h (fun h6 h=>ai h6<|L h) (fun h6 h=>ai h6<|aQ h fun w7 h=>ai w7<|L h)) (fun h1 h=>ai (aw h1)<|L h)
abbrev tj(a0:(List Var))(r:Int):bm×HP:=(.ret (I r),H0)
def lQ:Option Int:=
 (lp (fun v=>kG a0 v) 0).bind fun (x1:(Nat⊕(Nat×Bool)))=>match x1 with
 | .inl ya_2=>
  some (ya_2:Int)
 | .inr yb_2=>
  some (-1)
theorem ry(r:Int)(h:lQ a0=some r):call G Ω0 E0 156 [(.l 83 (a0.map cn)),(.f 135 [])] H0=some (tj a0 r):=
 aW ai6 (ao (.i (a0.length:Int))<|.or (.ex fun (ya_2:Nat)=>ao (.bT (gw a0 (.inl ya_2)))<|.nil) (.ex fun (yb_2:(Nat×Bool))=>ao (.bT (gw a0 (.inr yb_2)))<|.nil)) fun L=>ai (aC cn a0)<|dA h (ei (rv a0) 0) (fun ya_2 h=>L h) (fun yb_2 h=>L h)
abbrev rz(a0:(List Var))(r:Bool):bm×HP:=(.ret (.b r),H0)
def fR:Option Bool:=
 (lQ a0).bind fun (r1:Int)=>
 some (decide (0≤r1))
theorem oZ(r:Bool)(h:fR a0=some r):call G Ω0 E0 134 [(.l 83 (a0.map cn)),(.f 135 [])] H0=some (rz a0 r):=
 aW aiU (xI fun r1=>.nil) fun L=>aU h (ry a0) fun r1 h=>L h
def zN:List cF:=(gM 38 37)::⟨some 39,.fa 2 1,some ⟨38,false⟩,false⟩::⟨some 40,.ld none 39,some ⟨38,false⟩,false⟩::⟨some 41,.ln false 40,some ⟨38,false⟩,false⟩::⟨some 42,.fa 0 1,some ⟨38,false⟩,false⟩::⟨some 43,.fa 0 42,some ⟨38,false⟩,false⟩::⟨some 44,.ld none 43,some ⟨38,false⟩,false⟩::⟨some 45,.bo .gtr false 41 44,some ⟨38,false⟩,false⟩::(gp 46 (.pk 38 (.c (.b true)) 45))::[]
end
section
variable (a0:Program)
def j9(u2_1:Bool):Option Bool:=
 if u2_1=true then
  some true
 else
  some (decide (a0.ah.Many<(a0.Speak.length:Int)))
abbrev mI(u2_1:Bool)(x:Bool):St:=⟨[(1,(.p ⟨0,1⟩ 0)),(46,(.b x))],[(1,(ar a0))],H0⟩
theorem oA(u2_1:Bool)(w:List AV)(x:Bool)(h:j9 a0 u2_1=some x):oX G Ω0 E0 [1,46] [1] zN ⟨[(37,(.b u2_1)),(36,(W w 0)),(35,(W w 1)),(34,(W w 2)),(33,(W w 3)),(32,(W w 4)),(31,(W w 5)),(30,(W w 6)),(29,(W w 7)),(28,(W w 8)),(27,(W w 9)),(26,(W w 10)),(25,(W w 11)),(24,(W w 12)),(23,(W w 13)),(22,(W w 14)),(21,(W w 15)),(20,(.b (decide (16<(a0.Vars.length:Int))))),(19,(.b (decide (16<(a0.Vars.length:Int))))),(18,(I (a0.Vars.length:Int))),(17,(.l 83 (a0.Vars.map cn))),(16,(.p ⟨0,1⟩ 5)),(1,(.p ⟨0,1⟩ 0))],[(1,(ar a0))],H0⟩=some (mI a0 u2_1 x):=
 oJ (.or (bf<|bf<|bf<|bf<|bf<|bf<|bf<|bt<|.nil) (mD<|ao (.i (a0.Speak.length:Int))<|bt<|bt<|bt<|bt<|bt<|bf<|.nil)) fun L=>bz h (fun h7 h=>eD h7<|eD h7<|lJ h7<|L h) (fun h7 h=>Az h7<|ai (aC (I) a0.Speak)<|eD h7<|ai (rfl:Z0)<|lJ h7<|L h)
def Hf:List cF:=(gF 16 5 1)::(gQ 17 16)::(gl 18 17)::(gB 19 .gtr 18 (kI 16))::(gM 20 19)::⟨some 21,.fa 3 1,some ⟨20,false⟩,false⟩::⟨some 22,.ld none 21,some ⟨20,false⟩,false⟩::⟨some 23,.ln false 22,some ⟨20,false⟩,false⟩::⟨some 24,.bo .gtr false 23 (kI 5),some ⟨20,false⟩,false⟩::(gp 25 (.pk 20 (.c (.b true)) 24))::(gM 26 25)::⟨some 27,.fa 4 1,some ⟨26,false⟩,false⟩::⟨some 28,.ld none 27,some ⟨26,false⟩,false⟩::⟨some 29,.ln false 28,some ⟨26,false⟩,false⟩::⟨some 30,.bo .gtr false 29 (kI 5),some ⟨26,false⟩,false⟩::(gp 31 (.pk 26 (.c (.b true)) 30))::(gM 32 31)::⟨some 33,.fa 6 1,some ⟨32,false⟩,false⟩::⟨some 34,.ld none 33,some ⟨32,false⟩,false⟩::⟨some 35,.ln false 34,some ⟨32,false⟩,false⟩::⟨some 36,.bo .gtr false 35 (kI 5),some ⟨32,false⟩,false⟩::(gp 37 (.pk 32 (.c (.b true)) 36))::zN
def pw:Option Bool:=
 if 16<(a0.Vars.length:Int) then
  (j9 a0 true).bind fun (x5:Bool)=>
  some x5
 else
  if 5<(a0.Ins.length:Int) then
   (j9 a0 true).bind fun (x6:Bool)=>
   some x6
  else
   if 5<(a0.Outs.length:Int) then
    (j9 a0 true).bind fun (x7:Bool)=>
    some x7
   else
    (j9 a0 (decide (5<(a0.Funcs.length:Int)))).bind fun (x7:Bool)=>
    some x7
abbrev zO(x:Bool):St:=⟨[(1,(.p ⟨0,1⟩ 0)),(46,(.b x))],[(1,(ar a0))],H0⟩
theorem FT(x:Bool)(h:pw a0=some x):oX G Ω0 E0 [1,46] [1] Hf ⟨[(1,(.p ⟨0,1⟩ 0))],[(1,(ar a0))],H0⟩=some (zO a0 x):=
 oJ (bt<|ao (.i (a0.Vars.length:Int))<|.or (aaU<|.jb (some 38) 8<|.ex fun (x5:Bool)=>ao (.jn (mI a0 true x5))<|.nil) (mD<|ao (.i (a0.Ins.length:Int))<|vV<|.or (TC<|.jb (some 38) 8<|.ex fun (x6:Bool)=>ao (.jn (mI a0 true x6))<|.nil) (mD<|ao (.i (a0.Outs.length:Int))<|vV<|.or (N8<|.jb (some 38) 8<|.ex fun (x7:Bool)=>ao (.jn (mI a0 true x7))<|.nil) (mD<|ao (.i (a0.Funcs.length:Int))<|vV<|.jb (some 38) 8<|.ex fun (x7:Bool)=>ao (.jn (mI a0 (decide (5<(a0.Funcs.length:Int))) x7))<|.nil)))) fun L=>ai (rfl:Z0)<|ai (aC cn a0.Vars)<|bL h (fun h4 h=>eD (av h4)<|lJ (av h4)<|ju<|ju<|ai tt<|ju<|ju<|ai tt<|aU h (oA a0 true [.sk,.sk,.sk,.sk,(.b true),(.b true),.sk,.sk,.sk,.sk,(.b true),(.b true),.sk,.sk,.sk,.sk]) fun x5 h=>L h) (fun h4 h=>Az (aw h4)<|ai (aC az a0.Ins)<|lJ (aw h4)<|bL h (fun h5 h=>eD (av h5)<|lJ (av h5)<|ju<|ju<|ai tt<|aU h (oA a0 true [.sk,.sk,.sk,.sk,(.b true),(.b true),.sk,.sk,.sk,.sk,(.b (decide (5<(a0.Ins.length:Int)))),(.b (decide (5<(a0.Ins.length:Int)))),(.b (decide (5<(a0.Ins.length:Int)))),(I (a0.Ins.length:Int)),(.l 81 (a0.Ins.map az)),(.p ⟨0,1⟩ 3)]) fun x6 h=>L h) (fun h5 h=>Az (aw h5)<|ai (aC az a0.Outs)<|lJ (aw h5)<|bL h (fun h6 h=>N7 (av h6)<|aU h (oA a0 true [.sk,.sk,.sk,.sk,(.b (decide (5<(a0.Outs.length:Int)))),(.b (decide (5<(a0.Outs.length:Int)))),(.b (decide (5<(a0.Outs.length:Int)))),(I (a0.Outs.length:Int)),(.l 81 (a0.Outs.map az)),(.p ⟨0,1⟩ 4),(.b (decide (5<(a0.Ins.length:Int)))),(.b (decide (5<(a0.Ins.length:Int)))),(.b (decide (5<(a0.Ins.length:Int)))),(I (a0.Ins.length:Int)),(.l 81 (a0.Ins.map az)),(.p ⟨0,1⟩ 3)]) fun x7 h=>L h) (fun h6 h=>Az (aw h6)<|ai (aC ct a0.Funcs)<|lJ (aw h6)<|aU h (oA a0 (decide (5<(a0.Funcs.length:Int))) [(.b (decide (5<(a0.Funcs.length:Int)))),(I (a0.Funcs.length:Int)),(.l 101 (a0.Funcs.map ct)),(.p ⟨0,1⟩ 6),(.b (decide (5<(a0.Outs.length:Int)))),(.b (decide (5<(a0.Outs.length:Int)))),(.b (decide (5<(a0.Outs.length:Int)))),(I (a0.Outs.length:Int)),(.l 81 (a0.Outs.map az)),(.p ⟨0,1⟩ 4),(.b (decide (5<(a0.Ins.length:Int)))),(.b (decide (5<(a0.Ins.length:Int)))),(.b (decide (5<(a0.Ins.length:Int)))),(I (a0.Ins.length:Int)),(.l 81 (a0.Ins.map az)),(.p ⟨0,1⟩ 3)]) fun x7 h=>L h)))
def nL(r10:(List Label))(v0_58:Nat):Option (Nat⊕(Int⊕(Nat×Bool))):=
 if (v0_58:Int)<(r10.length:Int) then
  (r10[v0_58]?).bind fun (y13:Label)=>
  (qB a0.ah y13).bind fun (r15:Int)=>
  if (r15 !=0)=true then
   some (.inr (.inl r15))
  else
   if IntKind.i64.wrap ((v0_58:Int)+1)=((v0_58+1:Nat):Int) then
    some (.inl (v0_58+1))
   else none
 else
  some (.inr (.inr (v0_58,decide ((v0_58:Int)<(r10.length:Int)))))
abbrev IZ(r10:(List Label))(v:Nat):St:=⟨[(1,(.e (.a (ar a0)) 0)),(56,(.l 81 (r10.map az))),(57,(I (r10.length:Int))),(58,(I (v:Int)))],[],H0⟩
abbrev va(r10:(List Label))(x:(Int⊕(Nat×Bool))):aH×St:=match x with | .inl z1=>(.ret,⟨[(2,(I z1))],[],H0⟩) | .inr (z1,z2)=>((.ex 0),⟨[(1,(.e (.a (ar a0)) 0)),(56,(.l 81 (r10.map az))),(57,(I (r10.length:Int))),(58,(I (z1:Int))),(59,(.b z2))],[],H0⟩)
theorem Hg(r10:(List Label))(v0_58:Nat)(o:Nat⊕(Int⊕(Nat×Bool)))(h:nL a0 r10 v0_58=some o):bu E0 Vv (IZ a0 r10) (va a0 r10) v0_58 o:=
 bH (.or (bt<|ao (.n v0_58)<|.ex fun (y13:Label)=>ao (.v (.a [(.l 138 (y13.Read.map aF)),(.l 138 (y13.Write.map aF))]))<|eF<|xI fun r15=>oN (ao (.i ((v0_58+1:Nat):Int))<|.nil)) (bf<|.nil)) fun L=>bL h (fun h12 h=>ai (av h12)<|ai (rI v0_58)<|cb h fun y13 h14 h=>ai (aD az h14)<|JL<|aU h (zM a0.ah y13) fun r15 h=>bz h (fun h17 h=>ai h17<|L h) (fun h17 h=>ai h17<|aQ h fun w18 h=>ai w18<|L h)) (fun h12 h=>ai (aw h12)<|L h)
def nM(v1_73:Nat):Option (Nat⊕(Int⊕(Nat×Bool))):=
 if (v1_73:Int)<(a0.Vars.length:Int) then
  (a0.Vars[v1_73]?).bind fun (y16:Var)=>
  (qB a0.ah y16.Label).bind fun (r18:Int)=>
  if (r18 !=0)=true then
   some (.inr (.inl r18))
  else
   if IntKind.i64.wrap ((v1_73:Int)+1)=((v1_73+1:Nat):Int) then
    some (.inl (v1_73+1))
   else none
 else
  some (.inr (.inr (v1_73,decide ((v1_73:Int)<(a0.Vars.length:Int)))))
abbrev I0(v:Nat):St:=⟨[(1,(.e (.a (ar a0)) 0)),(71,(.l 83 (a0.Vars.map cn))),(72,(I (a0.Vars.length:Int))),(73,(I (v:Int)))],[],H0⟩
abbrev vc(x:(Int⊕(Nat×Bool))):aH×St:=match x with | .inl z1=>(.ret,⟨[(2,(I z1))],[],H0⟩) | .inr (z1,z2)=>((.ex 2),⟨[(1,(.e (.a (ar a0)) 0)),(71,(.l 83 (a0.Vars.map cn))),(72,(I (a0.Vars.length:Int))),(73,(I (z1:Int))),(74,(.b z2))],[],H0⟩)
theorem Hh(v1_73:Nat)(o:Nat⊕(Int⊕(Nat×Bool)))(h:nM a0 v1_73=some o):bu E0 Vw (I0 a0) (vc a0) v1_73 o:=
 bH (.or (bt<|ao (.n v1_73)<|.ex fun (y16:Var)=>ao (.v (.a (De y16)))<|eF<|xI fun r18=>oN (ao (.i ((v1_73+1:Nat):Int))<|.nil)) (bf<|.nil)) fun L=>bL h (fun h15 h=>ai (av h15)<|ai (rI v1_73)<|cb h fun y16 h17 h=>ai (aD cn h17)<|JL<|aU h (zM a0.ah y16.Label) fun r18 h=>bz h (fun h20 h=>ai h20<|L h) (fun h20 h=>ai h20<|aQ h fun w21 h=>ai w21<|L h)) (fun h15 h=>ai (aw h15)<|L h)
abbrev Mg(a0:Program)(r:Int):bm×HP:=(.ret (I r),H0)
def uh:Option Int:=
 (rj a0.ah).bind fun (r1:Int)=>
 if (r1 !=0)=true then
  some r1
 else
  (pw a0).bind fun (x4:Bool)=>
  if x4=true then
   some 2
  else
   (fQ a0.Speak a0).bind fun (r7:Bool)=>
   if r7=true then
    some 5
   else
    (iy ([a0.Ins,a0.Outs])).bind fun (r10:(List Label))=>
    (lp (fun v=>nL a0 r10 v) 0).bind fun (x12:(Int⊕(Nat×Bool)))=>match x12 with
    | .inl ya_13=>
     some ya_13
    | .inr yb_13=>
     (lp (fun v=>nM a0 v) 0).bind fun (x15:(Int⊕(Nat×Bool)))=>match x15 with
     | .inl ya_16=>
      some ya_16
     | .inr yb_16=>
      (fR a0.Vars).bind fun (r18:Bool)=>
      if r18=true then
       some 1
      else
       some 0
theorem Hi(r:Int)(h:uh a0=some r):call G Ω0 E0 92 [(.a (ar a0))] H0=some (Mg a0 r):=
 aW G92 (bt<|xI fun r1=>oN (.jb (some 16) 30<|.ex fun (x4:Bool)=>ao (.jn (zO a0 x4))<|oN (xB fun r7=>oN (ao (.l (([a0.Ins,a0.Outs]).map (eg 81 az)))<|.ex fun (r10:(List Label))=>ao (.v (.l 81 (r10.map az)))<|ao (.i (r10.length:Int))<|.or (.ex fun (ya_13:Int)=>ao (.bT (va a0 r10 (.inl ya_13)))<|.nil) (.ex fun (yb_13:(Nat×Bool))=>ao (.bT (va a0 r10 (.inr yb_13)))<|ao (.i (a0.Vars.length:Int))<|.or (.ex fun (ya_16:Int)=>ao (.bT (vc a0 (.inl ya_16)))<|.nil) (.ex fun (yb_16:(Nat×Bool))=>ao (.bT (vc a0 (.inr yb_16)))<|xB fun r18=>oN (.nil))))))) fun L=>et<|aU h (EN a0.ah) fun r1 h=>bz h (fun h3 h=>ai h3<|L h) (fun h3 h=>ai h3<|aU h (FT a0) fun x4 h=>bz h (fun h6 h=>ai h6<|L h) (fun h6 h=>nI h6<|aU h (oY a0.Speak a0) fun r7 h=>bz h (fun h9 h=>ai h9<|L h) (fun h9 h=>ai h9<|ai (rfl:[(.l 81 (a0.Ins.map az)),(.l 81 (a0.Outs.map az))]=([a0.Ins,a0.Outs]).map (eg 81 az))<|aU h (u7 ([a0.Ins,a0.Outs])) fun r10 h=>ai (aC az r10)<|dA h (ei (Hg a0 r10) 0) (fun ya_13 h=>L h) (fun yb_13 h=>ai (aC cn a0.Vars)<|dA h (ei (Hh a0) 0) (fun ya_16 h=>L h) (fun yb_16 h=>aU h (oZ a0.Vars) fun r18 h=>bz h (fun h20 h=>ai h20<|L h) (fun h20 h=>ai h20<|L h))))))
end
section
variable (dp:Nat)(hp:HP)(k0:Key)
abbrev Kr(dp:Nat)(hp:HP)(k0:Key)(a0:Stmt)(a1:Int)(c0:Int)(r:(Bool×Int)):bm×HP:=(.ret (.b r.1),aG hp k0 [(I r.2)])
def wJ(a0:Stmt)(a1:Int)(c0:Int):Option (Bool×Int):=
 if IntKind.i64.wrap (c0+1)=c0+1 then
  if (c0+1)≤50 then
   some ((decide (a1≤6)),(c0+1))
  else
   some (false,(c0+1))
 else none
theorem FU(hk_k0:k0.dp<dp)(hz:cM dp hp)(a0:Stmt)(a1:Int)(c0:Int)(r:(Bool×Int))(h:wJ a0 a1 c0=some r):call G Ω0 ⟨dp,false⟩ 136 [(.a (bC a0)),(I a1),(.p k0 0)] (aG hp k0 [(I c0)])=some (Kr dp hp k0 a0 a1 c0 r):=
 aW aiW (bf<|ao (.l [(I c0)])<|ao (.i (c0+1))<|bf<|ao (.l [(I c0)])<|bf<|ao (.h (aG hp k0 [(I (c0+1))]))<|bf<|ao (.l [(I (c0+1))])<|.or (eF<|.nil) (JM<|.nil)) fun L=>ai ((by simp [bC,AV.cJ,AV.eG,AV.deep,AV.fJ,de hk_k0,iE hk_k0]):(((.a (bC a0)):AV).deep dp&&(([(0,(.a (bC a0))),(1,(I a1)),(2,(.p k0 0))]:List (Nat×AV)).all (fun y=>y.2.cJ ⟨dp,3⟩)&&([]:List (Nat×List AV)).all (fun y=>AV.eG ⟨dp,3⟩ y.2)))=true)<|ai (dY hk_k0)<|ai (lI hp k0 [(I c0)])<|aQ h fun w1 h=>ai w1<|ai ff<|ai (dY hk_k0)<|ai (lI hp k0 [(I c0)])<|ai tt<|ai (dY hk_k0)<|ai (nG hp k0 [(I c0)] [(I (c0+1))])<|ai (dY hk_k0)<|ai (lI hp k0 [(I (c0+1))])<|bL h (fun h2 h=>ua (av h2)<|L h) (fun h2 h=>ua (aw h2)<|L h)
end
section
variable (dp:Nat)(hp:HP)(k0:Key)(a0:(List Stmt))(a1:Int)(c0:Int)
abbrev xu(dp:Nat)(hp:HP)(k0:Key)(a0:(List Stmt))(a1:Int)(c0:Int)(r:(Bool×Int)):bm×HP:=(.ret (.b r.1),aG hp k0 [(I r.2)])
abbrev kW(r:(Bool×Int)):Prop:=call G Ω0 ⟨dp,false⟩ 137 [(.l 92 (a0.map aV)),(I a1),(.f 136 [(.p k0 0)])] (aG hp k0 [(I c0)])=some (xu dp hp k0 a0 a1 c0 r)
end
structure kX where
 f_scope_Walk__scope_few_1:(List Stmt)→Int→Int→Option (Bool×Int)
structure kr(R:kX):Prop where
 f_scope_Walk__scope_few_1:∀ (dp:Nat)(hp:HP)(k0:Key)(hk_k0:k0.dp<dp)(hz:cM dp hp)(a0:(List Stmt))(a1:Int)(c0:Int)(r:(Bool×Int)),R.f_scope_Walk__scope_few_1 a0 a1 c0=some r→kW dp hp k0 a0 a1 c0 r
section
variable (R:kX)(a0:(List Stmt))(a1:Int)(dp:Nat)(hp:HP)(k0:Key)(c0:Int)
def gG(v0_11:Nat)(v0_k0_0:Int):Option ((Nat×Int)⊕(Int⊕(Nat×Bool×Int))):=
 if (v0_11:Int)<(a0.length:Int) then
  (a0[v0_11]?).bind fun (y2:Stmt)=>
  (wJ y2 a1 v0_k0_0).bind fun (r4:(Bool×Int))=>
  if r4.1=true then
   if IntKind.i64.wrap (a1+1)=a1+1 then
    (R.f_scope_Walk__scope_few_1 y2.Then (a1+1) r4.2).bind fun (r8:(Bool×Int))=>
    if r8.1=true then
     (R.f_scope_Walk__scope_few_1 y2.Else (a1+1) r8.2).bind fun (r11:(Bool×Int))=>
     if r11.1=true then
      if IntKind.i64.wrap ((v0_11:Int)+1)=((v0_11+1:Nat):Int) then
       some (.inl (v0_11+1,r11.2))
      else none
     else
      some (.inr (.inl r11.2))
    else
     some (.inr (.inl r8.2))
   else none
  else
   some (.inr (.inl r4.2))
 else
  some (.inr (.inr (v0_11,decide ((v0_11:Int)<(a0.length:Int)),v0_k0_0)))
abbrev wa(dp:Nat)(hp:HP)(k0:Key)(a0:(List Stmt))(a1:Int)(v:(Nat×Int)):St:=⟨[(1,(I a1)),(2,(.f 136 [(.p k0 0)])),(9,(.l 92 (a0.map aV))),(10,(I (a0.length:Int))),(11,(I (v.1:Int)))],[],aG hp k0 [(I v.2)]⟩
abbrev jO(dp:Nat)(hp:HP)(k0:Key)(a0:(List Stmt))(a1:Int)(x:(Int⊕(Nat×Bool×Int))):aH×St:=match x with | .inl z1=>(.ret,⟨[(6,(.b false))],[],aG hp k0 [(I z1)]⟩) | .inr (z1,z2,z3)=>((.ex 0),⟨[(1,(I a1)),(2,(.f 136 [(.p k0 0)])),(9,(.l 92 (a0.map aV))),(10,(I (a0.length:Int))),(11,(I (z1:Int))),(12,(.b z2))],[],aG hp k0 [(I z3)]⟩)
theorem vd(hR:kr R)(dp:Nat)(hp:HP)(k0:Key)(hk_k0:k0.dp<dp)(hz:cM dp hp)(a0:(List Stmt))(a1:Int)(v0_11:Nat)(v0_k0_0:Int)(o:(Nat×Int)⊕(Int⊕(Nat×Bool×Int)))(h:gG R a0 a1 v0_11 v0_k0_0=some o):bu ⟨dp,false⟩ Lq (wa dp hp k0 a0 a1) (jO dp hp k0 a0 a1) (v0_11,v0_k0_0) o:=
 bH (.or (bt<|ao (.n v0_11)<|.ex fun (y2:Stmt)=>ao (.v (.a (bC y2)))<|eF<|.ex fun (r4:(Bool×Int))=>ao (.v (.b r4.1))<|ao (.h (boxes dp [(8,(bC y2))] (aG hp k0 [(I r4.2)])))<|ao (.bx [(8,(bC y2))])<|ao (.h (aG hp k0 [(I r4.2)]))<|.or (pj<|ao (.i (a1+1))<|dG<|.ex fun (r8:(Bool×Int))=>ao (.v (.b r8.1))<|ao (.h (boxes dp [(8,(bC y2))] (aG hp k0 [(I r8.2)])))<|ao (.bx [(8,(bC y2))])<|ao (.h (aG hp k0 [(I r8.2)]))<|vV<|.or (pj<|ao (.i (a1+1))<|dG<|.ex fun (r11:(Bool×Int))=>ao (.v (.b r11.1))<|ao (.h (boxes dp [(8,(bC y2))] (aG hp k0 [(I r11.2)])))<|ao (.bx [(8,(bC y2))])<|ao (.h (aG hp k0 [(I r11.2)]))<|vV<|.or (bf<|ao (.i ((v0_11+1:Nat):Int))<|.nil) (bt<|.nil)) (TD<|.nil)) (aaV<|.nil)) (bf<|.nil)) fun L=>bL h (fun h1 h=>ai (av h1)<|ai (rI v0_11)<|cb h fun y2 h3 h=>ai (oq aV h3 (ie _))<|ai ((by simp [bC,AV.cJ,AV.eG,AV.deep,AV.fJ,de hk_k0,iE hk_k0]):(([(14,(.a (bC y2))),(13,(.e (.a (bC y2)) 0)),(1,(I a1)),(2,(.f 136 [(.p k0 0)])),(9,(.l 92 (a0.map aV))),(10,(I (a0.length:Int))),(11,(I (v0_11:Int)))]:List (Nat×AV)).all (fun y=>y.2.cJ ⟨dp,8⟩)&&([]:List (Nat×List AV)).all (fun y=>AV.eG ⟨dp,8⟩ y.2))=true)<|ai ff<|ai (rN dp)<|ai tt<|ai (rN dp)<|ai (rN dp)<|ai ff<|ai tt<|cb h fun r4 ek5 h=>have ek5:=cO hk_k0 (FU (dp+1) (boxes dp [(8,(bC y2))] (aG hp k0 [(I v0_k0_0)])) k0 (ib hk_k0) (il (cz hk_k0 (hz))) y2 a1 v0_k0_0 _ ek5);ai ek5<|ai (Ca ek5 (by kernel_rfl) (by kernel_rfl))<|ai (Cb ek5 (cz hk_k0 (hz)))<|bz h (fun h6 h=>Bv (ak not h6)<|ai (rN dp)<|Bv (ak not h6)<|aQ h fun w7 h=>ai w7<|ai (g0 (ak not h6))<|ai (g0 (ak not h6))<|ai ff<|ai tt<|cb h fun r8 ek9 h=>have ek9:=cO hk_k0 (hR.f_scope_Walk__scope_few_1 (dp+1) (boxes dp [(8,(bC y2))] (aG hp k0 [(I r4.2)])) k0 (ib hk_k0) (il (cz hk_k0 (hz))) y2.Then (a1+1) r4.2 _ ek9);ai ek9<|ai (Ca ek9 (by kernel_rfl) (by kernel_rfl))<|ai (Cb ek9 (cz hk_k0 (hz)))<|lJ (ak not h6)<|bz h (fun h10 h=>Bv (ak not h10)<|ai (rN dp)<|Bv (ak not h10)<|ai w7<|ai (g0 (ak not h10))<|ai (g0 (ak not h10))<|ai ff<|ai tt<|cb h fun r11 ek12 h=>have ek12:=cO hk_k0 (hR.f_scope_Walk__scope_few_1 (dp+1) (boxes dp [(8,(bC y2))] (aG hp k0 [(I r8.2)])) k0 (ib hk_k0) (il (cz hk_k0 (hz))) y2.Else (a1+1) r8.2 _ ek12);ai ek12<|ai (Ca ek12 (by kernel_rfl) (by kernel_rfl))<|ai (Cb ek12 (cz hk_k0 (hz)))<|lJ (ak not h10)<|bz h (fun h13 h=>ai (ak not h13)<|aQ h fun w14 h=>ai w14<|L h) (fun h13 h=>ai (ak not h13)<|L h)) (fun h10 h=>Tv (ak not h10)<|L h)) (fun h6 h=>eD (ak not h6)<|eD (ak not h6)<|lJ (ak not h6)<|ju<|ju<|ju<|ai ht<|bW<|L h)) (fun h1 h=>ai (aw h1)<|L h)
def gR:Option (Bool×Int):=
 (lp (fun v=>gG R a0 a1 v.1 v.2) (0,c0)).bind fun (x1:(Int⊕(Nat×Bool×Int)))=>match x1 with
 | .inl ya_2=>
  some (false,ya_2)
 | .inr yb_2=>
  some (true,yb_2.2.2)
theorem uE(hR:kr R)(dp:Nat)(hp:HP)(k0:Key)(hk_k0:k0.dp<dp)(hz:cM dp hp)(a0:(List Stmt))(a1:Int)(c0:Int)(r:(Bool×Int))(h:gR R a0 a1 c0=some r):kW dp hp k0 a0 a1 c0 r:=
 aW aax (ao (.i (a0.length:Int))<|.or (.ex fun (ya_2:Int)=>ao (.bT (jO dp hp k0 a0 a1 (.inl ya_2)))<|.nil) (.ex fun (yb_2:(Nat×Bool×Int))=>ao (.bT (jO dp hp k0 a0 a1 (.inr yb_2)))<|.nil)) fun L=>ai (aC aV a0)<|dA h (ei (fun v=>vd R hR dp hp k0 hk_k0 hz a0 a1 v.1 v.2) (0,c0)) (fun ya_2 h=>L h) (fun yb_2 h=>L h)
def ec:Nat→kX
 | 0=>⟨fun z0 z1 z2=>none⟩
 | n+1=>⟨gR (ec n)⟩
theorem oL:∀ n,kr (ec n)
 | 0=>⟨fun _ _ _ _ _ _ _ _ r h=>(by cases h)⟩
 | n+1=>⟨fun dp hp k0 hk_k0 hz a0 a1 c0 r h=>uE _ (oL n) dp hp k0 hk_k0 hz a0 a1 c0 r h⟩
def iz:Option (Bool×Int):=ev fun n=>(ec n).f_scope_Walk__scope_few_1 a0 a1 c0
theorem nN(hk_k0:k0.dp<dp)(hz:cM dp hp)(a0:(List Stmt))(a1:Int)(c0:Int)(r:(Bool×Int))(h:iz a0 a1 c0=some r):kW dp hp k0 a0 a1 c0 r:=by
 obtain ⟨n,hn⟩:=uS h
 exact (oL n).f_scope_Walk__scope_few_1 dp hp k0 hk_k0 hz a0 a1 c0 r hn
end
section
variable (a0:Program)
def sH(v0_11:Nat)(v0_3_0:Int):Option ((Nat×Int)⊕(Unit⊕(Nat×Bool×Int))):=
 if (v0_11:Int)<(a0.Funcs.length:Int) then
  (a0.Funcs[v0_11]?).bind fun (y2:Func)=>
  (iz y2.Body 1 v0_3_0).bind fun (r4:(Bool×Int))=>
  if r4.1=true then
   if IntKind.i64.wrap ((v0_11:Int)+1)=((v0_11+1:Nat):Int) then
    some (.inl (v0_11+1,r4.2))
   else none
  else
   some (.inr (.inl ()))
 else
  some (.inr (.inr (v0_11,decide ((v0_11:Int)<(a0.Funcs.length:Int)),v0_3_0)))
abbrev Ks(v:(Nat×Int)):St:=⟨[(1,(.p ⟨0,1⟩ 0)),(4,(.f 136 [(.p ⟨0,3⟩ 0)])),(9,(.l 101 (a0.Funcs.map ct))),(10,(I (a0.Funcs.length:Int))),(11,(I (v.1:Int)))],[(1,(ar a0)),(3,[(I v.2)])],H0⟩
abbrev wK(x:(Unit⊕(Nat×Bool×Int))):aH×St:=match x with | .inl ()=>(.ret,⟨[(2,(.b false))],[],H0⟩) | .inr (z1,z2,z3)=>((.ex 0),⟨[(1,(.p ⟨0,1⟩ 0)),(4,(.f 136 [(.p ⟨0,3⟩ 0)])),(9,(.l 101 (a0.Funcs.map ct))),(10,(I (a0.Funcs.length:Int))),(11,(I (z1:Int))),(12,(.b z2))],[(1,(ar a0)),(3,[(I z3)])],H0⟩)
theorem I1(v0_11:Nat)(v0_3_0:Int)(o:(Nat×Int)⊕(Unit⊕(Nat×Bool×Int)))(h:sH a0 v0_11 v0_3_0=some o):bu E0 Vx (Ks a0) (wK a0) (v0_11,v0_3_0) o:=
 bH (.or (bt<|ao (.n v0_11)<|.ex fun (y2:Func)=>ao (.v (.a (dB y2)))<|eF<|.ex fun (r4:(Bool×Int))=>ao (.v (.b r4.1))<|ao (.h (boxes 0 [(1,(ar a0)),(3,[(I r4.2)]),(6,(dB y2))] H0))<|ao (.bx [(1,(ar a0)),(3,[(I r4.2)]),(6,(dB y2))])<|ao (.h (H0))<|.or (bf<|ao (.i ((v0_11+1:Nat):Int))<|.nil) (bt<|.nil)) (bf<|.nil)) fun L=>bL h (fun h1 h=>ai (av h1)<|ai (rI v0_11)<|cb h fun y2 h3 h=>ai (aD ct h3)<|ai tt<|lL<|et<|ai (rfl:Z0)<|ai ff<|ai tt<|cb h fun r4 ek5 h=>have ek5:call G Ω0 ⟨0+1,false⟩ 137 [(.l 92 (y2.Body.map aV)),(I 1),(.f 136 [(.p ⟨0,3⟩ 0)])] (boxes 0 [(1,(ar a0)),(3,[(I v0_3_0)]),(6,(dB y2))] H0)=some (.ret (.b r4.1),boxes 0 [(1,(ar a0)),(3,[(I r4.2)]),(6,(dB y2))] H0):=tM (kq (bx1:=[(1,(ar a0)),(3,[(I v0_3_0)]),(6,(dB y2))]) (by kernel_rfl) (by kernel_rfl)) (kq (bx1:=[(1,(ar a0)),(3,[(I r4.2)]),(6,(dB y2))]) (by kernel_rfl) (by kernel_rfl)) (nN (0+1) (boxes 0 [(1,(ar a0)),(3,[(I v0_3_0)]),(6,(dB y2))] H0) ⟨0,3⟩ (pV 0) (il (qn 0)) y2.Body 1 v0_3_0 _ ek5);ai ek5<|ai (Ca ek5 (by kernel_rfl) (by kernel_rfl))<|ai (Cb ek5 (qn 0))<|bz h (fun h6 h=>ai (ak not h6)<|aQ h fun w7 h=>ai w7<|L h) (fun h6 h=>ai (ak not h6)<|L h)) (fun h1 h=>ai (aw h1)<|L h)
abbrev Nz(a0:Program)(r:Bool):bm×HP:=(.ret (.b r),H0)
def vt:Option Bool:=
 (lp (fun v=>sH a0 v.1 v.2) (0,0)).bind fun (x1:(Unit⊕(Nat×Bool×Int)))=>match x1 with
 | .inl ya_2=>
  some false
 | .inr yb_2=>
  (iz a0.Main 1 yb_2.2.2).bind fun (r4:(Bool×Int))=>
  some r4.1
theorem I2(r:Bool)(h:vt a0=some r):call G Ω0 E0 93 [(.a (ar a0))] H0=some (Nz a0 r):=
 aW G93 (eF<|ao (.i (a0.Funcs.length:Int))<|.or (.ex fun (ya_2:Unit)=>ao (.bT (wK a0 (.inl ya_2)))<|.nil) (.ex fun (yb_2:(Nat×Bool×Int))=>ao (.bT (wK a0 (.inr yb_2)))<|bt<|.ex fun (r4:(Bool×Int))=>ao (.v (.b r4.1))<|ao (.h (boxes 0 [(1,(ar a0)),(3,[(I r4.2)])] H0))<|ao (.bx [(1,(ar a0)),(3,[(I r4.2)])])<|ao (.h (H0))<|.nil)) fun L=>bW<|lL<|et<|ai (rfl:Z0)<|ai (aC ct a0.Funcs)<|dA h (ei (fun v=>I1 a0 v.1 v.2) (0,0)) (fun ya_2 h=>L h) (fun yb_2 h=>ai (rfl:Z0)<|ai ff<|ai tt<|cb h fun r4 ek5 h=>have ek5:call G Ω0 ⟨0+1,false⟩ 137 [(.l 92 (a0.Main.map aV)),(I 1),(.f 136 [(.p ⟨0,3⟩ 0)])] (boxes 0 [(1,(ar a0)),(3,[(I yb_2.2.2)])] H0)=some (.ret (.b r4.1),boxes 0 [(1,(ar a0)),(3,[(I r4.2)])] H0):=tM (kq (bx1:=[(1,(ar a0)),(3,[(I yb_2.2.2)])]) (by kernel_rfl) (by kernel_rfl)) (kq (bx1:=[(1,(ar a0)),(3,[(I r4.2)])]) (by kernel_rfl) (by kernel_rfl)) (nN (0+1) (boxes 0 [(1,(ar a0)),(3,[(I yb_2.2.2)])] H0) ⟨0,3⟩ (pV 0) (il (qn 0)) a0.Main 1 yb_2.2.2 _ ek5);ai ek5<|ai (Ca ek5 (by kernel_rfl) (by kernel_rfl))<|ai (Cb ek5 (qn 0))<|L h)
end
section
variable (a0:(List Int))(a1:Int)
def kY(v0_8:Nat):Option (Nat⊕(Nat⊕(Nat×Bool))):=
 if (v0_8:Int)<(a0.length:Int) then
  (a0[v0_8]?).bind fun (y2:Int)=>
  if (a1==y2)=true then
   some (.inr (.inl v0_8))
  else
   if IntKind.i64.wrap ((v0_8:Int)+1)=((v0_8+1:Nat):Int) then
    some (.inl (v0_8+1))
   else none
 else
  some (.inr (.inr (v0_8,decide ((v0_8:Int)<(a0.length:Int)))))
abbrev BN(v:Nat):St:=⟨[(0,(.l 3 (a0.map (I)))),(1,(I a1)),(7,(I (a0.length:Int))),(8,(I (v:Int)))],[],H0⟩
abbrev oB(x:(Nat⊕(Nat×Bool))):aH×St:=match x with | .inl z1=>(.ret,⟨[(4,(I (z1:Int)))],[],H0⟩) | .inr (z1,z2)=>((.ex 0),⟨[(0,(.l 3 (a0.map (I)))),(1,(I a1)),(7,(I (a0.length:Int))),(8,(I (z1:Int))),(9,(.b z2))],[],H0⟩)
theorem AL(v0_8:Nat)(o:Nat⊕(Nat⊕(Nat×Bool)))(h:kY a0 a1 v0_8=some o):bu E0 Q0 (BN a0 a1) (oB a0 a1) v0_8 o:=
 bH (.or (bt<|ao (.n v0_8)<|xI fun y2=>oN (ao (.i ((v0_8+1:Nat):Int))<|.nil)) (bf<|.nil)) fun L=>bL h (fun h1 h=>ai (av h1)<|ai (rI v0_8)<|cb h fun y2 h3 h=>ai (aD (I) h3)<|bz h (fun h4 h=>ai h4<|L h) (fun h4 h=>ai h4<|aQ h fun w5 h=>ai w5<|L h)) (fun h1 h=>ai (aw h1)<|L h)
abbrev Dv(a0:(List Int))(a1:Int)(r:Int):bm×HP:=(.ret (I r),H0)
def qC:Option Int:=
 (lp (fun v=>kY a0 a1 v) 0).bind fun (x1:(Nat⊕(Nat×Bool)))=>match x1 with
 | .inl ya_2=>
  some (ya_2:Int)
 | .inr yb_2=>
  some (-1)
theorem AM(r:Int)(h:qC a0 a1=some r):call G Ω0 E0 157 [(.l 3 (a0.map (I))),(I a1)] H0=some (Dv a0 a1 r):=
 aW ai7 (ao (.i (a0.length:Int))<|.or (.ex fun (ya_2:Nat)=>ao (.bT (oB a0 a1 (.inl ya_2)))<|.nil) (.ex fun (yb_2:(Nat×Bool))=>ao (.bT (oB a0 a1 (.inr yb_2)))<|.nil)) fun L=>ai (aC (I) a0)<|dA h (ei (AL a0 a1) 0) (fun ya_2 h=>L h) (fun yb_2 h=>L h)
abbrev AN(a0:(List Int))(a1:Int)(r:Bool):bm×HP:=(.ret (.b r),H0)
def ka:Option Bool:=
 (qC a0 a1).bind fun (r1:Int)=>
 some (decide (0≤r1))
theorem yl(r:Bool)(h:ka a0 a1=some r):call G Ω0 E0 138 [(.l 3 (a0.map (I))),(I a1)] H0=some (AN a0 a1 r):=
 aW aiX (xI fun r1=>.nil) fun L=>aU h (AM a0 a1) fun r1 h=>L h
end
section
variable (dp:Nat)(hp:HP)(k0:Key)(a0:Stmt)
abbrev y0(dp:Nat)(hp:HP)(k0:Key)(k1:Key)(k2:Key)(a0:Stmt)(a1:Int)(c0:Unit)(c1:Checker)(c2:Int)(r:(Bool×Unit×Int)):bm×HP:=(.ret (.b r.1),aG (aG (aG hp k0 [(.p k1 0)]) k1 (bj c1)) k2 [(I r.2.2)])
def mh(a1:Int)(c0:Unit)(c1:Checker)(c2:Int):Option (Bool×Unit×Int):=
 (fP c1 a0).bind fun (r1:Int)=>
 some ((r1==0),(),r1)
theorem wL(hk_k0:k0.dp<dp)(k1:Key)(hk_k1:k1.dp<dp)(k2:Key)(hk_k2:k2.dp<dp)(hn_k0_k1:k0≠k1)(hn_k0_k2:k0≠k2)(hn_k1_k2:k1≠k2)(hz:cM dp hp)(a0:Stmt)(a1:Int)(c0:Unit)(c1:Checker)(c2:Int)(r:(Bool×Unit×Int))(h:mh a0 a1 c0 c1 c2=some r):call G Ω0 ⟨dp,false⟩ 139 [(.a (bC a0)),(I a1),(.p k0 0),(.p k2 0)] (aG (aG (aG hp k0 [(.p k1 0)]) k1 (bj c1)) k2 [(I c2)])=some (y0 dp hp k0 k1 k2 a0 a1 c0 c1 c2 r):=
 aW aiY (bf<|ao (.l [(.p k1 0)])<|bt<|xI fun r1=>ao (.h (boxes dp [(4,(bC a0))] (aG (aG (aG hp k0 [(.p k1 0)]) k1 (bj c1)) k2 [(I c2)])))<|bf<|ao (.l [(I c2)])<|bf<|ao (.h (aG (aG (aG hp k0 [(.p k1 0)]) k1 (bj c1)) k2 [(I r1)]))<|bf<|ao (.l [(I r1)])<|.nil) fun L=>ai ((by simp [bC,AV.cJ,AV.eG,AV.deep,AV.fJ,de hk_k0,iE hk_k0,de hk_k1,iE hk_k1,de hk_k2,iE hk_k2]):(((.a (bC a0)):AV).deep dp&&(([(0,(.a (bC a0))),(1,(I a1)),(2,(.p k0 0)),(3,(.p k2 0))]:List (Nat×AV)).all (fun y=>y.2.cJ ⟨dp,4⟩)&&([]:List (Nat×List AV)).all (fun y=>AV.eG ⟨dp,4⟩ y.2)))=true)<|ai (dY hk_k0)<|ai (ajj hn_k0_k1 hn_k0_k2:(aG (aG (aG hp k0 [(.p k1 0)]) k1 (bj c1)) k2 [(I c2)]) k0=some [(.p k1 0)])<|ai (rN dp)<|ai tt<|cb h fun r1 ek2 h=>have ek2:call G Ω0 ⟨dp+1,true⟩ 140 [(.p k1 0),(.a (bC a0))] (boxes dp [(4,(bC a0))] (aG (aG (aG hp k0 [(.p k1 0)]) k1 (bj c1)) k2 [(I c2)]))=some (.ret (I r1),boxes dp [(4,(bC a0))] (aG (aG (aG hp k0 [(.p k1 0)]) k1 (bj c1)) k2 [(I c2)])):=tM (ot (hp1:=aG (aG (aG hp k0 [(.p k1 0)]) k1 (bj c1)) k2 [(I c2)]) (dY hk_k1) (xU (pU hn_k1_k2) (nG ..))) (ot (hp1:=aG (aG (aG hp k0 [(.p k1 0)]) k1 (bj c1)) k2 [(I c2)]) (dY hk_k1) (xU (pU hn_k1_k2) (nG ..))) (yZ (dp+1) (boxes dp [(4,(bC a0))] (aG (aG (aG hp k0 [(.p k1 0)]) k1 (bj c1)) k2 [(I c2)])) k1 (ib hk_k1) (il (cz hk_k2 (cz hk_k1 (cz hk_k0 (hz))))) c1 a0 _ ek2);ai ek2<|ai ff<|ai (dY hk_k2)<|ai (lI (aG (aG hp k0 [(.p k1 0)]) k1 (bj c1)) k2 [(I c2)])<|ai tt<|ai (dY hk_k2)<|ai (nG (aG (aG hp k0 [(.p k1 0)]) k1 (bj c1)) k2 [(I c2)] [(I r1)])<|ai (dY hk_k2)<|ai (lI (aG (aG hp k0 [(.p k1 0)]) k1 (bj c1)) k2 [(I r1)])<|L h
end
section
variable (dp:Nat)(hp:HP)(k0:Key)(k1:Key)(k2:Key)(a0:(List Stmt))(a1:Int)(c0:Unit)(c1:Checker)(c2:Int)
abbrev rA(dp:Nat)(hp:HP)(k0:Key)(k1:Key)(k2:Key)(a0:(List Stmt))(a1:Int)(c0:Unit)(c1:Checker)(c2:Int)(r:(Bool×Unit×Int)):bm×HP:=(.ret (.b r.1),aG (aG (aG hp k0 [(.p k1 0)]) k1 (bj c1)) k2 [(I r.2.2)])
abbrev fS(r:(Bool×Unit×Int)):Prop:=call G Ω0 ⟨dp,false⟩ 137 [(.l 92 (a0.map aV)),(I a1),(.f 139 [(.p k0 0),(.p k2 0)])] (aG (aG (aG hp k0 [(.p k1 0)]) k1 (bj c1)) k2 [(I c2)])=some (rA dp hp k0 k1 k2 a0 a1 c0 c1 c2 r)
end
structure fT where
 f_scope_Walk__scope_checker_stmts_1:(List Stmt)→Int→Unit→Checker→Int→Option (Bool×Unit×Int)
structure fw(R:fT):Prop where
 f_scope_Walk__scope_checker_stmts_1:∀ (dp:Nat)(hp:HP)(k0:Key)(hk_k0:k0.dp<dp)(k1:Key)(hk_k1:k1.dp<dp)(k2:Key)(hk_k2:k2.dp<dp)(hn_k0_k1:k0≠k1)(hn_k0_k2:k0≠k2)(hn_k1_k2:k1≠k2)(hz:cM dp hp)(a0:(List Stmt))(a1:Int)(c0:Unit)(c1:Checker)(c2:Int)(r:(Bool×Unit×Int)),R.f_scope_Walk__scope_checker_stmts_1 a0 a1 c0 c1 c2=some r→fS dp hp k0 k1 k2 a0 a1 c0 c1 c2 r
section
variable (R:fT)(a0:(List Stmt))(a1:Int)(c1:Checker)(dp:Nat)(hp:HP)(k0:Key)(c0:Unit)
def dM(v0_11:Nat)(v0_k2_0:Int):Option ((Nat×Int)⊕(Int⊕(Nat×Bool×Int))):=
 if (v0_11:Int)<(a0.length:Int) then
  (a0[v0_11]?).bind fun (y2:Stmt)=>
  (mh y2 a1 () c1 v0_k2_0).bind fun (r4:(Bool×Unit×Int))=>
  if r4.1=true then
   if IntKind.i64.wrap (a1+1)=a1+1 then
    (R.f_scope_Walk__scope_checker_stmts_1 y2.Then (a1+1) () c1 r4.2.2).bind fun (r8:(Bool×Unit×Int))=>
    if r8.1=true then
     (R.f_scope_Walk__scope_checker_stmts_1 y2.Else (a1+1) () c1 r8.2.2).bind fun (r11:(Bool×Unit×Int))=>
     if r11.1=true then
      if IntKind.i64.wrap ((v0_11:Int)+1)=((v0_11+1:Nat):Int) then
       some (.inl (v0_11+1,r11.2.2))
      else none
     else
      some (.inr (.inl r11.2.2))
    else
     some (.inr (.inl r8.2.2))
   else none
  else
   some (.inr (.inl r4.2.2))
 else
  some (.inr (.inr (v0_11,decide ((v0_11:Int)<(a0.length:Int)),v0_k2_0)))
abbrev pO(dp:Nat)(hp:HP)(k0:Key)(k1:Key)(k2:Key)(a0:(List Stmt))(a1:Int)(c1:Checker)(v:(Nat×Int)):St:=⟨[(1,(I a1)),(2,(.f 139 [(.p k0 0),(.p k2 0)])),(9,(.l 92 (a0.map aV))),(10,(I (a0.length:Int))),(11,(I (v.1:Int)))],[],aG (aG (aG hp k0 [(.p k1 0)]) k1 (bj c1)) k2 [(I v.2)]⟩
abbrev e9(dp:Nat)(hp:HP)(k0:Key)(k1:Key)(k2:Key)(a0:(List Stmt))(a1:Int)(c1:Checker)(x:(Int⊕(Nat×Bool×Int))):aH×St:=match x with | .inl z1=>(.ret,⟨[(6,(.b false))],[],aG (aG (aG hp k0 [(.p k1 0)]) k1 (bj c1)) k2 [(I z1)]⟩) | .inr (z1,z2,z3)=>((.ex 0),⟨[(1,(I a1)),(2,(.f 139 [(.p k0 0),(.p k2 0)])),(9,(.l 92 (a0.map aV))),(10,(I (a0.length:Int))),(11,(I (z1:Int))),(12,(.b z2))],[],aG (aG (aG hp k0 [(.p k1 0)]) k1 (bj c1)) k2 [(I z3)]⟩)
theorem o0(hR:fw R)(dp:Nat)(hp:HP)(k0:Key)(hk_k0:k0.dp<dp)(k1:Key)(hk_k1:k1.dp<dp)(k2:Key)(hk_k2:k2.dp<dp)(hn_k0_k1:k0≠k1)(hn_k0_k2:k0≠k2)(hn_k1_k2:k1≠k2)(hz:cM dp hp)(a0:(List Stmt))(a1:Int)(c1:Checker)(v0_11:Nat)(v0_k2_0:Int)(o:(Nat×Int)⊕(Int⊕(Nat×Bool×Int)))(h:dM R a0 a1 c1 v0_11 v0_k2_0=some o):bu ⟨dp,false⟩ Lq (pO dp hp k0 k1 k2 a0 a1 c1) (e9 dp hp k0 k1 k2 a0 a1 c1) (v0_11,v0_k2_0) o:=
 bH (.or (bt<|ao (.n v0_11)<|.ex fun (y2:Stmt)=>ao (.v (.a (bC y2)))<|eF<|.ex fun (r4:(Bool×Unit×Int))=>ao (.v (.b r4.1))<|ao (.h (boxes dp [(8,(bC y2))] (aG (aG (aG hp k0 [(.p k1 0)]) k1 (bj c1)) k2 [(I r4.2.2)])))<|ao (.bx [(8,(bC y2))])<|ao (.h (aG (aG (aG hp k0 [(.p k1 0)]) k1 (bj c1)) k2 [(I r4.2.2)]))<|.or (pj<|ao (.i (a1+1))<|dG<|.ex fun (r8:(Bool×Unit×Int))=>ao (.v (.b r8.1))<|ao (.h (boxes dp [(8,(bC y2))] (aG (aG (aG hp k0 [(.p k1 0)]) k1 (bj c1)) k2 [(I r8.2.2)])))<|ao (.bx [(8,(bC y2))])<|ao (.h (aG (aG (aG hp k0 [(.p k1 0)]) k1 (bj c1)) k2 [(I r8.2.2)]))<|vV<|.or (pj<|ao (.i (a1+1))<|dG<|.ex fun (r11:(Bool×Unit×Int))=>ao (.v (.b r11.1))<|ao (.h (boxes dp [(8,(bC y2))] (aG (aG (aG hp k0 [(.p k1 0)]) k1 (bj c1)) k2 [(I r11.2.2)])))<|ao (.bx [(8,(bC y2))])<|ao (.h (aG (aG (aG hp k0 [(.p k1 0)]) k1 (bj c1)) k2 [(I r11.2.2)]))<|vV<|.or (bf<|ao (.i ((v0_11+1:Nat):Int))<|.nil) (bt<|.nil)) (TD<|.nil)) (aaV<|.nil)) (bf<|.nil)) fun L=>bL h (fun h1 h=>ai (av h1)<|ai (rI v0_11)<|cb h fun y2 h3 h=>ai (oq aV h3 (ie _))<|ai ((by simp [bC,AV.cJ,AV.eG,AV.deep,AV.fJ,de hk_k0,iE hk_k0,de hk_k1,iE hk_k1,de hk_k2,iE hk_k2]):(([(14,(.a (bC y2))),(13,(.e (.a (bC y2)) 0)),(1,(I a1)),(2,(.f 139 [(.p k0 0),(.p k2 0)])),(9,(.l 92 (a0.map aV))),(10,(I (a0.length:Int))),(11,(I (v0_11:Int)))]:List (Nat×AV)).all (fun y=>y.2.cJ ⟨dp,8⟩)&&([]:List (Nat×List AV)).all (fun y=>AV.eG ⟨dp,8⟩ y.2))=true)<|ai ff<|ai (rN dp)<|ai tt<|ai (rN dp)<|ai (rN dp)<|ai ff<|ai tt<|cb h fun r4 ek5 h=>have ek5:=cO3 hk_k0 hk_k1 hk_k2 hn_k0_k1 hn_k0_k2 hn_k1_k2 (wL (dp+1) (boxes dp [(8,(bC y2))] (aG (aG (aG hp k0 [(.p k1 0)]) k1 (bj c1)) k2 [(I v0_k2_0)])) k0 (ib hk_k0) k1 (ib hk_k1) k2 (ib hk_k2) (hn_k0_k1) (hn_k0_k2) (hn_k1_k2) (il (cz hk_k2 (cz hk_k1 (cz hk_k0 (hz))))) y2 a1 () c1 v0_k2_0 _ ek5);ai ek5<|ai (Ca ek5 (by kernel_rfl) (by kernel_rfl))<|ai (Cb ek5 (cz hk_k2 (cz hk_k1 (cz hk_k0 (hz)))))<|bz h (fun h6 h=>Bv (ak not h6)<|ai (rN dp)<|Bv (ak not h6)<|aQ h fun w7 h=>ai w7<|ai (g0 (ak not h6))<|ai (g0 (ak not h6))<|ai ff<|ai tt<|cb h fun r8 ek9 h=>have ek9:=cO3 hk_k0 hk_k1 hk_k2 hn_k0_k1 hn_k0_k2 hn_k1_k2 (hR.f_scope_Walk__scope_checker_stmts_1 (dp+1) (boxes dp [(8,(bC y2))] (aG (aG (aG hp k0 [(.p k1 0)]) k1 (bj c1)) k2 [(I r4.2.2)])) k0 (ib hk_k0) k1 (ib hk_k1) k2 (ib hk_k2) (hn_k0_k1) (hn_k0_k2) (hn_k1_k2) (il (cz hk_k2 (cz hk_k1 (cz hk_k0 (hz))))) y2.Then (a1+1) () c1 r4.2.2 _ ek9);ai ek9<|ai (Ca ek9 (by kernel_rfl) (by kernel_rfl))<|ai (Cb ek9 (cz hk_k2 (cz hk_k1 (cz hk_k0 (hz)))))<|lJ (ak not h6)<|bz h (fun h10 h=>Bv (ak not h10)<|ai (rN dp)<|Bv (ak not h10)<|ai w7<|ai (g0 (ak not h10))<|ai (g0 (ak not h10))<|ai ff<|ai tt<|cb h fun r11 ek12 h=>have ek12:=cO3 hk_k0 hk_k1 hk_k2 hn_k0_k1 hn_k0_k2 hn_k1_k2 (hR.f_scope_Walk__scope_checker_stmts_1 (dp+1) (boxes dp [(8,(bC y2))] (aG (aG (aG hp k0 [(.p k1 0)]) k1 (bj c1)) k2 [(I r8.2.2)])) k0 (ib hk_k0) k1 (ib hk_k1) k2 (ib hk_k2) (hn_k0_k1) (hn_k0_k2) (hn_k1_k2) (il (cz hk_k2 (cz hk_k1 (cz hk_k0 (hz))))) y2.Else (a1+1) () c1 r8.2.2 _ ek12);ai ek12<|ai (Ca ek12 (by kernel_rfl) (by kernel_rfl))<|ai (Cb ek12 (cz hk_k2 (cz hk_k1 (cz hk_k0 (hz)))))<|lJ (ak not h10)<|bz h (fun h13 h=>ai (ak not h13)<|aQ h fun w14 h=>ai w14<|L h) (fun h13 h=>ai (ak not h13)<|L h)) (fun h10 h=>Tv (ak not h10)<|L h)) (fun h6 h=>eD (ak not h6)<|eD (ak not h6)<|lJ (ak not h6)<|ju<|ju<|ju<|ai ht<|bW<|L h)) (fun h1 h=>ai (aw h1)<|L h)
def dR(c0:Unit)(c1:Checker)(c2:Int):Option (Bool×Unit×Int):=
 (lp (fun v=>dM R a0 a1 c1 v.1 v.2) (0,c2)).bind fun (x1:(Int⊕(Nat×Bool×Int)))=>match x1 with
 | .inl ya_2=>
  some (false,(),ya_2)
 | .inr yb_2=>
  some (true,(),yb_2.2.2)
theorem oM(hR:fw R)(dp:Nat)(hp:HP)(k0:Key)(hk_k0:k0.dp<dp)(k1:Key)(hk_k1:k1.dp<dp)(k2:Key)(hk_k2:k2.dp<dp)(hn_k0_k1:k0≠k1)(hn_k0_k2:k0≠k2)(hn_k1_k2:k1≠k2)(hz:cM dp hp)(a0:(List Stmt))(a1:Int)(c0:Unit)(c1:Checker)(c2:Int)(r:(Bool×Unit×Int))(h:dR R a0 a1 c0 c1 c2=some r):fS dp hp k0 k1 k2 a0 a1 c0 c1 c2 r:=
 aW aax (ao (.i (a0.length:Int))<|.or (.ex fun (ya_2:Int)=>ao (.bT (e9 dp hp k0 k1 k2 a0 a1 c1 (.inl ya_2)))<|.nil) (.ex fun (yb_2:(Nat×Bool×Int))=>ao (.bT (e9 dp hp k0 k1 k2 a0 a1 c1 (.inr yb_2)))<|.nil)) fun L=>ai (aC aV a0)<|dA h (ei (fun v=>o0 R hR dp hp k0 hk_k0 k1 hk_k1 k2 hk_k2 hn_k0_k1 hn_k0_k2 hn_k1_k2 hz a0 a1 c1 v.1 v.2) (0,c2)) (fun ya_2 h=>L h) (fun yb_2 h=>L h)
def cN:Nat→fT
 | 0=>⟨fun z0 z1 z2 z3 z4=>none⟩
 | n+1=>⟨dR (cN n)⟩
theorem jP:∀ n,fw (cN n)
 | 0=>⟨fun _ _ _ _ _ _ _ _ _ _ _ _ _ _ _ _ _ r h=>(by cases h)⟩
 | n+1=>⟨fun dp hp k0 hk_k0 k1 hk_k1 k2 hk_k2 hn_k0_k1 hn_k0_k2 hn_k1_k2 hz a0 a1 c0 c1 c2 r h=>oM _ (jP n) dp hp k0 hk_k0 k1 hk_k1 k2 hk_k2 hn_k0_k1 hn_k0_k2 hn_k1_k2 hz a0 a1 c0 c1 c2 r h⟩
def fU(c1:Checker)(c2:Int):Option (Bool×Unit×Int):=ev fun n=>(cN n).f_scope_Walk__scope_checker_stmts_1 a0 a1 c0 c1 c2
theorem o5(hk_k0:k0.dp<dp)(k1:Key)(hk_k1:k1.dp<dp)(k2:Key)(hk_k2:k2.dp<dp)(hn_k0_k1:k0≠k1)(hn_k0_k2:k0≠k2)(hn_k1_k2:k1≠k2)(hz:cM dp hp)(a0:(List Stmt))(a1:Int)(c0:Unit)(c1:Checker)(c2:Int)(r:(Bool×Unit×Int))(h:fU a0 a1 c0 c1 c2=some r):fS dp hp k0 k1 k2 a0 a1 c0 c1 c2 r:=by
 obtain ⟨n,hn⟩:=uS h
 exact (jP n).f_scope_Walk__scope_checker_stmts_1 dp hp k0 hk_k0 k1 hk_k1 k2 hk_k2 hn_k0_k1 hn_k0_k2 hn_k1_k2 hz a0 a1 c0 c1 c2 r hn
end
section
variable (dp:Nat)(hp:HP)(k0:Key)(c0:Checker)(a0:(List Stmt))
abbrev AO(dp:Nat)(hp:HP)(k0:Key)(c0:Checker)(a0:(List Stmt))(r:Int):bm×HP:=(.ret (I r),aG hp k0 (bj c0))
def iq:Option Int:=
 (fU a0 1 () c0 0).bind fun (r1:(Bool×Unit×Int))=>
 some r1.2.2
theorem qD(hk_k0:k0.dp<dp)(hz:cM dp hp)(c0:Checker)(a0:(List Stmt))(r:Int)(h:iq c0 a0=some r):call G Ω0 ⟨dp,false⟩ 95 [(.p k0 0),(.l 92 (a0.map aV))] (aG hp k0 (bj c0))=some (AO dp hp k0 c0 a0 r):=
 aW G95 (dG<|.ex fun (r1:(Bool×Unit×Int))=>ao (.v (.b r1.1))<|ao (.h (boxes dp [(2,[(.p k0 0)]),(5,[(I r1.2.2)])] (aG hp k0 (bj c0))))<|ao (.bx [(2,[(.p k0 0)]),(5,[(I r1.2.2)])])<|ao (.h (aG hp k0 (bj c0)))<|bt<|.nil) fun L=>ai ((by simp [AV.cJ,AV.eG,AV.deep,AV.fJ,de hk_k0,iE hk_k0]):(((.p k0 0):AV).deep dp&&(([(0,(.p k0 0)),(1,(.l 92 (a0.map aV)))]:List (Nat×AV)).all (fun y=>y.2.cJ ⟨dp,2⟩)&&([]:List (Nat×List AV)).all (fun y=>AV.eG ⟨dp,2⟩ y.2)))=true)<|ai ((by simp [AV.cJ,AV.eG,AV.deep,AV.fJ,de hk_k0,iE hk_k0]):(([(1,(.l 92 (a0.map aV))),(2,(.p ⟨dp,2⟩ 0))]:List (Nat×AV)).all (fun y=>y.2.cJ ⟨dp,5⟩)&&([(2,[(.p k0 0)])]:List (Nat×List AV)).all (fun y=>AV.eG ⟨dp,5⟩ y.2))=true)<|ai ff<|ai (rN dp)<|ai tt<|ai (rN dp)<|ai ff<|ai ((by simp [AV.deep,AV.fJ,iE hk_k0]):([(2,[(.p k0 0)]),(5,[(I 0)])]:List (Nat×List AV)).all (fun y=>AV.fJ dp y.2)=true)<|cb h fun r1 ek2 h=>have ek2:call G Ω0 ⟨dp+1,false⟩ 137 [(.l 92 (a0.map aV)),(I 1),(.f 139 [(.p ⟨dp,2⟩ 0),(.p ⟨dp,5⟩ 0)])] (boxes dp [(2,[(.p k0 0)]),(5,[(I 0)])] (aG hp k0 (bj c0)))=some (.ret (.b r1.1),boxes dp [(2,[(.p k0 0)]),(5,[(I r1.2.2)])] (aG hp k0 (bj c0))):=tM (uR (uR (kq (bx1:=[(2,[(.p k0 0)]),(5,[(I 0)])]) (by kernel_rfl) (by kernel_rfl)) (ot (hp1:=aG hp k0 (bj c0)) (dY hk_k0) (nG ..))) (kq (bx1:=[(2,[(.p k0 0)]),(5,[(I 0)])]) (by kernel_rfl) (by kernel_rfl))) (uR (uR (kq (bx1:=[(2,[(.p k0 0)]),(5,[(I 0)])]) (by kernel_rfl) (by kernel_rfl)) (ot (hp1:=aG hp k0 (bj c0)) (dY hk_k0) (nG ..))) (kq (bx1:=[(2,[(.p k0 0)]),(5,[(I r1.2.2)])]) (by kernel_rfl) (by kernel_rfl))) (o5 (dp+1) (boxes dp [(2,[(.p k0 0)]),(5,[(I 0)])] (aG hp k0 (bj c0))) ⟨dp,2⟩ (pV dp) k0 (ib hk_k0) ⟨dp,5⟩ (pV dp) (N6 hk_k0) (aaP (by decide)) (de hk_k0) (il (cz hk_k0 (hz))) a0 1 () c0 0 _ ek2);ai ek2<|ai (Ca ek2 (by kernel_rfl) (by kernel_rfl))<|ai (Cb ek2 (cz hk_k0 (hz)))<|ai (rN dp)<|L h
end
section
variable (c0:Checker)(a0:Func)(dp:Nat)(hp:HP)(k0:Key)
def kZ(v0_15:Nat):Option (Nat⊕(Unit⊕(Unit⊕(Nat×Bool)))):=
 if (v0_15:Int)<(a0.Params.length:Int) then
  (a0.Params[v0_15]?).bind fun (y3:Int)=>
  if y3<0 then
   some (.inr (.inl ()))
  else
   if (c0.p.Vars.length:Int)≤y3 then
    some (.inr (.inl ()))
   else
    if v0_15≤a0.Params.length then
     (ka ((a0.Params.take v0_15).drop 0) y3).bind fun (r8:Bool)=>
     if r8=true then
      some (.inr (.inr (.inl ())))
     else
      if IntKind.i64.wrap ((v0_15:Int)+1)=((v0_15+1:Nat):Int) then
       some (.inl (v0_15+1))
      else none
    else none
 else
  some (.inr (.inr (.inr (v0_15,decide ((v0_15:Int)<(a0.Params.length:Int))))))
abbrev BO(c0:Checker)(a0:Func)(v:Nat):St:=⟨[(0,(.p k0 0)),(3,(.p ⟨dp,3⟩ 0)),(13,(.l 3 (a0.Params.map (I)))),(14,(I (a0.Params.length:Int))),(15,(I (v:Int)))],[(3,(dB a0))],aG hp k0 (bj c0)⟩
abbrev k7(c0:Checker)(a0:Func)(x:(Unit⊕(Unit⊕(Nat×Bool)))):aH×St:=match x with | .inl ()=>(.ret,⟨[(4,(I 5))],[],aG hp k0 (bj c0)⟩) | .inr (.inl ())=>(.ret,⟨[(4,(I 6))],[],aG hp k0 (bj c0)⟩) | .inr (.inr (z1,z2))=>((.ex 0),⟨[(0,(.p k0 0)),(3,(.p ⟨dp,3⟩ 0)),(13,(.l 3 (a0.Params.map (I)))),(14,(I (a0.Params.length:Int))),(15,(I (z1:Int))),(16,(.b z2))],[(3,(dB a0))],aG hp k0 (bj c0)⟩)
theorem AP(hk_k0:k0.dp<dp)(hz:cM dp hp)(c0:Checker)(a0:Func)(v0_15:Nat)(o:Nat⊕(Unit⊕(Unit⊕(Nat×Bool))))(h:kZ c0 a0 v0_15=some o):bu ⟨dp,false⟩ Vy (BO dp hp k0 c0 a0) (k7 dp hp k0 c0 a0) v0_15 o:=
 bH (.or (bt<|ao (.n v0_15)<|xI fun y3=>.or (bf<|bf<|bf<|bf<|bf<|bf<|bf<|bf<|bt<|bt<|.nil) (Re<|ao (.l (bj c0))<|bt<|ao (.i (c0.p.Vars.length:Int))<|vV<|oN (bt<|ao (.n v0_15)<|ao (.l (((a0.Params.take v0_15).drop 0).map (I)))<|xB fun r8=>oN (ao (.i ((v0_15+1:Nat):Int))<|.nil)))) (bf<|.nil)) fun L=>bL h (fun h2 h=>ai (av h2)<|ai (rI v0_15)<|cb h fun y3 h4 h=>ai (aD (I) h4)<|bL h (fun h5 h=>eD (av h5)<|eD (av h5)<|ai (g0 (av h5))<|lJ (av h5)<|ai tt<|L h) (fun h5 h=>eD (aw h5)<|eD (aw h5)<|ai (dY hk_k0)<|ai (lI hp k0 (bj c0))<|ai (g0 (aw h5))<|ai (aC cn c0.p.Vars)<|lJ (aw h5)<|bL h (fun h6 h=>ai (av h6)<|L h) (fun h6 h=>ai (aw h6)<|ai (rN dp)<|ai (rI v0_15)<|ai ((by decide):3≠0)<|ai ((jF (I) (n:=1) (fun _=>rfl) a0.Params):(a0.Params.map (I)).all (fun e=>e.nc==1)=true)<|ai (b9 _:0≤v0_15)<|aQ h fun h7 h=>ai ((by rw [fh];exact h7):v0_15≤(a0.Params.map (I)).length)<|ai (Kl (I) a0.Params 0 v0_15)<|aU h (yl ((a0.Params.take v0_15).drop 0) y3) fun r8 h=>bz h (fun h10 h=>ai h10<|L h) (fun h10 h=>ai h10<|aQ h fun w11 h=>ai w11<|L h)))) (fun h2 h=>ai (aw h2)<|L h)
abbrev Dw(dp:Nat)(hp:HP)(k0:Key)(c0:Checker)(a0:Func)(r:Int):bm×HP:=(.ret (I r),aG hp k0 (bj c0))
def mJ:Option Int:=
 if 4<(a0.Params.length:Int) then
  some 2
 else
  (lp (fun v=>kZ c0 a0 v) 0).bind fun (x2:(Unit⊕(Unit⊕(Nat×Bool))))=>match x2 with
  | .inl ya_3=>
   some 5
  | .inr (.inl yb_3)=>
   some 6
  | .inr (.inr yc_3)=>
   (iq c0 a0.Body).bind fun (r5:Int)=>
   if (r5 !=0)=true then
    some r5
   else
    (jI a0.Result (c0.p.Vars.length:Int)).bind fun (r8:Int)=>
    some r8
theorem AQ(hk_k0:k0.dp<dp)(hz:cM dp hp)(c0:Checker)(a0:Func)(r:Int)(h:mJ c0 a0=some r):call G Ω0 ⟨dp,false⟩ 94 [(.p k0 0),(.a (dB a0))] (aG hp k0 (bj c0))=some (Dw dp hp k0 c0 a0 r):=
 aW G94 (bt<|ao (.i (a0.Params.length:Int))<|oN (bt<|ao (.i (a0.Params.length:Int))<|.or (.ex fun (ya_3:Unit)=>ao (.bT (k7 dp hp k0 c0 a0 (.inl ya_3)))<|.nil) (.or (.ex fun (yb_3:Unit)=>ao (.bT (k7 dp hp k0 c0 a0 (.inr (.inl yb_3))))<|.nil) (.ex fun (yc_3:(Nat×Bool))=>ao (.bT (k7 dp hp k0 c0 a0 (.inr (.inr yc_3))))<|bt<|xI fun r5=>ao (.h (boxes dp [(3,(dB a0))] (aG hp k0 (bj c0))))<|ao (.bx [(3,(dB a0))])<|ao (.h (aG hp k0 (bj c0)))<|oN (vV<|ao (.l (bj c0))<|ao (.i (c0.p.Vars.length:Int))<|xI fun r8=>.nil))))) fun L=>ai ((by simp [dB,AV.cJ,AV.eG,AV.deep,AV.fJ,de hk_k0,iE hk_k0]):(((.a (dB a0)):AV).deep dp&&(([(0,(.p k0 0)),(1,(.a (dB a0)))]:List (Nat×AV)).all (fun y=>y.2.cJ ⟨dp,3⟩)&&([]:List (Nat×List AV)).all (fun y=>AV.eG ⟨dp,3⟩ y.2)))=true)<|ai (rN dp)<|ai (aC (I) a0.Params)<|bL h (fun h1 h=>ai (av h1)<|L h) (fun h1 h=>ai (aw h1)<|ai (rN dp)<|ai (aC (I) a0.Params)<|Px h (ei (AP dp hp k0 hk_k0 hz c0 a0) 0) (fun ya_3 h=>L h) (fun yb_3 h=>L h) (fun yc_3 h=>ai (rN dp)<|ai ff<|ai tt<|cb h fun r5 ek6 h=>have ek6:=cO hk_k0 (qD (dp+1) (boxes dp [(3,(dB a0))] (aG hp k0 (bj c0))) k0 (ib hk_k0) (il (cz hk_k0 (hz))) c0 a0.Body _ ek6);ai ek6<|ai (Ca ek6 (by kernel_rfl) (by kernel_rfl))<|ai (Cb ek6 (cz hk_k0 (hz)))<|bz h (fun h7 h=>ai h7<|L h) (fun h7 h=>ai h7<|bW<|ai (rN dp)<|bW<|bW<|ai tt<|ai (dY hk_k0)<|ai (lI hp k0 (bj c0))<|ai tt<|ai (aC cn c0.p.Vars)<|ai tt<|aU h (pq a0.Result (c0.p.Vars.length:Int)) fun r8 h=>L h)))
end
section
variable (a0:Program)
def mK(v0_22:Nat)(v0_18_8:Nat):Option ((Nat×Nat)⊕(Int⊕(Nat×Bool×Nat))):=
 if (v0_22:Int)<(a0.Funcs.length:Int) then
  (a0.Funcs[v0_22]?).bind fun (y8:Func)=>
  (mJ (⟨a0,(v0_22:Int)⟩:Checker) y8).bind fun (r10:Int)=>
  if (r10 !=0)=true then
   some (.inr (.inl r10))
  else
   if IntKind.i64.wrap ((v0_22:Int)+1)=((v0_22+1:Nat):Int) then
    some (.inl (v0_22+1,v0_22))
   else none
 else
  some (.inr (.inr (v0_22,decide ((v0_22:Int)<(a0.Funcs.length:Int)),v0_18_8)))
abbrev Hj(v:(Nat×Nat)):St:=⟨[(1,(.p ⟨0,1⟩ 0)),(4,(.p ⟨0,18⟩ 0)),(20,(.l 101 (a0.Funcs.map ct))),(21,(I (a0.Funcs.length:Int))),(22,(I (v.1:Int)))],[(1,(ar a0)),(18,[(I a0.ah.Many),(.l 166 (a0.ah.Grants.map aE)),(.l 3 (a0.Speak.map (I))),(.l 81 (a0.Ins.map az)),(.l 81 (a0.Outs.map az)),(.l 83 (a0.Vars.map cn)),(.l 101 (a0.Funcs.map ct)),(.l 92 (a0.Main.map aV)),(I (v.2:Int))])],H0⟩
abbrev ui(x:(Int⊕(Nat×Bool×Nat))):aH×St:=match x with | .inl z1=>(.ret,⟨[(2,(I z1))],[],H0⟩) | .inr (z1,z2,z3)=>((.ex 0),⟨[(1,(.p ⟨0,1⟩ 0)),(4,(.p ⟨0,18⟩ 0)),(20,(.l 101 (a0.Funcs.map ct))),(21,(I (a0.Funcs.length:Int))),(22,(I (z1:Int))),(23,(.b z2))],[(1,(ar a0)),(18,[(I a0.ah.Many),(.l 166 (a0.ah.Grants.map aE)),(.l 3 (a0.Speak.map (I))),(.l 81 (a0.Ins.map az)),(.l 81 (a0.Outs.map az)),(.l 83 (a0.Vars.map cn)),(.l 101 (a0.Funcs.map ct)),(.l 92 (a0.Main.map aV)),(I (z3:Int))])],H0⟩)
theorem FV(v0_22:Nat)(v0_18_8:Nat)(o:(Nat×Nat)⊕(Int⊕(Nat×Bool×Nat)))(h:mK a0 v0_22 v0_18_8=some o):bu E0 UO (Hj a0) (ui a0) (v0_22,v0_18_8) o:=
 bH (.or (bt<|ao (.n v0_22)<|.ex fun (y8:Func)=>ao (.v (.a (dB y8)))<|pj<|xI fun r10=>ao (.h (boxes 0 [(1,(ar a0)),(6,(dB y8)),(18,[(I a0.ah.Many),(.l 166 (a0.ah.Grants.map aE)),(.l 3 (a0.Speak.map (I))),(.l 81 (a0.Ins.map az)),(.l 81 (a0.Outs.map az)),(.l 83 (a0.Vars.map cn)),(.l 101 (a0.Funcs.map ct)),(.l 92 (a0.Main.map aV)),(I (v0_22:Int))])] H0))<|ao (.bx [(1,(ar a0)),(6,(dB y8)),(18,[(I a0.ah.Many),(.l 166 (a0.ah.Grants.map aE)),(.l 3 (a0.Speak.map (I))),(.l 81 (a0.Ins.map az)),(.l 81 (a0.Outs.map az)),(.l 83 (a0.Vars.map cn)),(.l 101 (a0.Funcs.map ct)),(.l 92 (a0.Main.map aV)),(I (v0_22:Int))])])<|ao (.h (H0))<|oN (ao (.i ((v0_22+1:Nat):Int))<|.nil)) (bf<|.nil)) fun L=>bL h (fun h7 h=>ai (av h7)<|ai (rI v0_22)<|cb h fun y8 h9 h=>ai (aD ct h9)<|ai tt<|lL<|et<|lL<|et<|ai (rfl:Z0)<|ai ff<|ai tt<|cb h fun r10 ek11 h=>have ek11:call G Ω0 ⟨0+1,false⟩ 94 [(.p ⟨0,18⟩ 0),(.a (dB y8))] (boxes 0 [(1,(ar a0)),(6,(dB y8)),(18,[(I a0.ah.Many),(.l 166 (a0.ah.Grants.map aE)),(.l 3 (a0.Speak.map (I))),(.l 81 (a0.Ins.map az)),(.l 81 (a0.Outs.map az)),(.l 83 (a0.Vars.map cn)),(.l 101 (a0.Funcs.map ct)),(.l 92 (a0.Main.map aV)),(I (v0_22:Int))])] H0)=some (.ret (I r10),boxes 0 [(1,(ar a0)),(6,(dB y8)),(18,[(I a0.ah.Many),(.l 166 (a0.ah.Grants.map aE)),(.l 3 (a0.Speak.map (I))),(.l 81 (a0.Ins.map az)),(.l 81 (a0.Outs.map az)),(.l 83 (a0.Vars.map cn)),(.l 101 (a0.Funcs.map ct)),(.l 92 (a0.Main.map aV)),(I (v0_22:Int))])] H0):=tM (kq (bx1:=[(1,(ar a0)),(6,(dB y8)),(18,[(I a0.ah.Many),(.l 166 (a0.ah.Grants.map aE)),(.l 3 (a0.Speak.map (I))),(.l 81 (a0.Ins.map az)),(.l 81 (a0.Outs.map az)),(.l 83 (a0.Vars.map cn)),(.l 101 (a0.Funcs.map ct)),(.l 92 (a0.Main.map aV)),(I (v0_22:Int))])]) (by kernel_rfl) (by kernel_rfl)) (kq (bx1:=[(1,(ar a0)),(6,(dB y8)),(18,[(I a0.ah.Many),(.l 166 (a0.ah.Grants.map aE)),(.l 3 (a0.Speak.map (I))),(.l 81 (a0.Ins.map az)),(.l 81 (a0.Outs.map az)),(.l 83 (a0.Vars.map cn)),(.l 101 (a0.Funcs.map ct)),(.l 92 (a0.Main.map aV)),(I (v0_22:Int))])]) (by kernel_rfl) (by kernel_rfl)) (AQ (0+1) (boxes 0 [(1,(ar a0)),(6,(dB y8)),(18,[(I a0.ah.Many),(.l 166 (a0.ah.Grants.map aE)),(.l 3 (a0.Speak.map (I))),(.l 81 (a0.Ins.map az)),(.l 81 (a0.Outs.map az)),(.l 83 (a0.Vars.map cn)),(.l 101 (a0.Funcs.map ct)),(.l 92 (a0.Main.map aV)),(I (v0_22:Int))])] H0) ⟨0,18⟩ (pV 0) (il (qn 0)) (⟨a0,(v0_22:Int)⟩:Checker) y8 _ ek11);ai ek11<|ai (Ca ek11 (by kernel_rfl) (by kernel_rfl))<|ai (Cb ek11 (qn 0))<|bz h (fun h12 h=>ai h12<|L h) (fun h12 h=>ai h12<|aQ h fun w13 h=>ai w13<|L h)) (fun h7 h=>ai (aw h7)<|L h)
abbrev Kt(a0:Program)(r:Int):bm×HP:=(.ret (I r),H0)
def oO:Option Int:=
 (uh a0).bind fun (r1:Int)=>
 if (r1 !=0)=true then
  some r1
 else
  (vt a0).bind fun (r4:Bool)=>
  if r4=true then
   (lp (fun v=>mK a0 v.1 v.2) (0,0)).bind fun (x7:(Int⊕(Nat×Bool×Nat)))=>match x7 with
   | .inl ya_8=>
    some ya_8
   | .inr yb_8=>
    (iq (⟨a0,(a0.Funcs.length:Int)⟩:Checker) a0.Main).bind fun (r10:Int)=>
    some r10
  else
   some 2
theorem ym(r:Int)(h:oO a0=some r):call G Ω0 E0 36 [(.a (ar a0))] H0=some (Kt a0 r):=
 aW G36 (bt<|xI fun r1=>oN (bt<|xB fun r4=>.or (bf<|bt<|bt<|ao (.i (a0.Funcs.length:Int))<|.or (.ex fun (ya_8:Int)=>ao (.bT (ui a0 (.inl ya_8)))<|.nil) (.ex fun (yb_8:(Nat×Bool×Nat))=>ao (.bT (ui a0 (.inr yb_8)))<|bt<|ao (.i (a0.Funcs.length:Int))<|eF<|xI fun r10=>ao (.h (boxes 0 [(1,(ar a0)),(18,[(I a0.ah.Many),(.l 166 (a0.ah.Grants.map aE)),(.l 3 (a0.Speak.map (I))),(.l 81 (a0.Ins.map az)),(.l 81 (a0.Outs.map az)),(.l 83 (a0.Vars.map cn)),(.l 101 (a0.Funcs.map ct)),(.l 92 (a0.Main.map aV)),(I (a0.Funcs.length:Int))])] H0))<|ao (.bx [(1,(ar a0)),(18,[(I a0.ah.Many),(.l 166 (a0.ah.Grants.map aE)),(.l 3 (a0.Speak.map (I))),(.l 81 (a0.Ins.map az)),(.l 81 (a0.Outs.map az)),(.l 83 (a0.Vars.map cn)),(.l 101 (a0.Funcs.map ct)),(.l 92 (a0.Main.map aV)),(I (a0.Funcs.length:Int))])])<|ao (.h (H0))<|.nil)) (bt<|.nil))) fun L=>et<|aU h (Hi a0) fun r1 h=>bz h (fun h3 h=>ai h3<|L h) (fun h3 h=>nI h3<|aU h (I2 a0) fun r4 h=>bz h (fun h6 h=>ai (ak not h6)<|ai (rfl:Z0)<|et<|ai (aC ct a0.Funcs)<|dA h (ei (fun v=>FV a0 v.1 v.2) (0,0)) (fun ya_8 h=>L h) (fun yb_8 h=>ai (rfl:Z0)<|ai (aC ct a0.Funcs)<|lL<|et<|ai (rfl:Z0)<|ai ff<|ai tt<|cb h fun r10 ek11 h=>have ek11:call G Ω0 ⟨0+1,false⟩ 95 [(.p ⟨0,18⟩ 0),(.l 92 (a0.Main.map aV))] (boxes 0 [(1,(ar a0)),(18,[(I a0.ah.Many),(.l 166 (a0.ah.Grants.map aE)),(.l 3 (a0.Speak.map (I))),(.l 81 (a0.Ins.map az)),(.l 81 (a0.Outs.map az)),(.l 83 (a0.Vars.map cn)),(.l 101 (a0.Funcs.map ct)),(.l 92 (a0.Main.map aV)),(I (a0.Funcs.length:Int))])] H0)=some (.ret (I r10),boxes 0 [(1,(ar a0)),(18,[(I a0.ah.Many),(.l 166 (a0.ah.Grants.map aE)),(.l 3 (a0.Speak.map (I))),(.l 81 (a0.Ins.map az)),(.l 81 (a0.Outs.map az)),(.l 83 (a0.Vars.map cn)),(.l 101 (a0.Funcs.map ct)),(.l 92 (a0.Main.map aV)),(I (a0.Funcs.length:Int))])] H0):=tM (kq (bx1:=[(1,(ar a0)),(18,[(I a0.ah.Many),(.l 166 (a0.ah.Grants.map aE)),(.l 3 (a0.Speak.map (I))),(.l 81 (a0.Ins.map az)),(.l 81 (a0.Outs.map az)),(.l 83 (a0.Vars.map cn)),(.l 101 (a0.Funcs.map ct)),(.l 92 (a0.Main.map aV)),(I (a0.Funcs.length:Int))])]) (by kernel_rfl) (by kernel_rfl)) (kq (bx1:=[(1,(ar a0)),(18,[(I a0.ah.Many),(.l 166 (a0.ah.Grants.map aE)),(.l 3 (a0.Speak.map (I))),(.l 81 (a0.Ins.map az)),(.l 81 (a0.Outs.map az)),(.l 83 (a0.Vars.map cn)),(.l 101 (a0.Funcs.map ct)),(.l 92 (a0.Main.map aV)),(I (a0.Funcs.length:Int))])]) (by kernel_rfl) (by kernel_rfl)) (qD (0+1) (boxes 0 [(1,(ar a0)),(18,[(I a0.ah.Many),(.l 166 (a0.ah.Grants.map aE)),(.l 3 (a0.Speak.map (I))),(.l 81 (a0.Ins.map az)),(.l 81 (a0.Outs.map az)),(.l 83 (a0.Vars.map cn)),(.l 101 (a0.Funcs.map ct)),(.l 92 (a0.Main.map aV)),(I (a0.Funcs.length:Int))])] H0) ⟨0,18⟩ (pV 0) (il (qn 0)) (⟨a0,(a0.Funcs.length:Int)⟩:Checker) a0.Main _ ek11);ai ek11<|ai (Ca ek11 (by kernel_rfl) (by kernel_rfl))<|ai (Cb ek11 (qn 0))<|L h)) (fun h6 h=>ai (ak not h6)<|L h))
end
section
variable (a0:(List Bool))(a1:(List Bool))
def mm(v0_5:(List Bool))(v0_10:Nat):Option (((List Bool)×Nat)⊕((List Bool)×Nat×Bool)):=
 if (v0_10:Int)<(a0.length:Int) then
  (a0[v0_10]?).bind fun (y2:Bool)=>
  if y2=true then
   (a1[v0_10]?).bind fun (y5:Bool)=>
   if v0_5.length + [y5].length≤1000000000 then
    if IntKind.i64.wrap ((v0_10:Int)+1)=((v0_10+1:Nat):Int) then
     some (.inl (v0_5++[y5],v0_10+1))
    else none
   else none
  else
   if v0_5.length + [false].length≤1000000000 then
    if IntKind.i64.wrap ((v0_10:Int)+1)=((v0_10+1:Nat):Int) then
     some (.inl (v0_5++[false],v0_10+1))
    else none
   else none
 else
  some (.inr (v0_5,v0_10,decide ((v0_10:Int)<(a0.length:Int))))
abbrev Ku(v:((List Bool)×Nat)):St:=⟨[(1,(.l 4 (a1.map AV.b))),(5,(.o 4 (v.1.map AV.b))),(8,(.l 4 (a0.map AV.b))),(9,(I (a0.length:Int))),(10,(I (v.2:Int)))],[],H0⟩
abbrev Ce(x:((List Bool)×Nat×Bool)):aH×St:=((.ex 0),⟨[(1,(.l 4 (a1.map AV.b))),(5,(.o 4 (x.1.map AV.b))),(8,(.l 4 (a0.map AV.b))),(9,(I (a0.length:Int))),(10,(I (x.2.1:Int))),(11,(.b x.2.2))],[],H0⟩)
theorem I3(v0_5:(List Bool))(v0_10:Nat)(o:((List Bool)×Nat)⊕((List Bool)×Nat×Bool))(h:mm a0 a1 v0_5 v0_10=some o):bu E0 QO (Ku a0 a1) (Ce a0 a1) (v0_5,v0_10) o:=
 bH (.or (bt<|ao (.n v0_10)<|xB fun y2=>.or (eF<|ao (.n v0_10)<|xB fun y5=>dG<|ao (.l ([y5].map AV.b))<|ao (.l ((v0_5++[y5]).map AV.b))<|ao (.i ((v0_10+1:Nat):Int))<|.nil) (TA<|ao (.l ([false].map AV.b))<|ao (.l ((v0_5++[false]).map AV.b))<|ao (.i ((v0_10+1:Nat):Int))<|.nil)) (bf<|.nil)) fun L=>bL h (fun h1 h=>ai (av h1)<|ai (rI v0_10)<|cb h fun y2 h3 h=>ai (aD AV.b h3)<|bz h (fun h4 h=>cU h4<|ai (rI v0_10)<|cb h fun y5 h6 h=>ai (aD AV.b h6)<|lK h4<|ai (rfl:[(.b y5)]=[y5].map AV.b)<|ai ff<|aQ h fun h7 h=>ai ((jF AV.b (n:=1) (fun _=>rfl) [y5]):([y5].map AV.b).all (fun e=>e.nc==1)=true)<|ai ((nr h7 (by decide)):((v0_5.map AV.b).length+([y5].map AV.b).length)*1≤140737488355328)<|ai ((nu h7):(v0_5.map AV.b).length+([y5].map AV.b).length≤maxLen)<|ai (dc.symm:v0_5.map AV.b++[y5].map AV.b=(v0_5++[y5]).map AV.b)<|aQ h fun w8 h=>ai w8<|L h) (fun h4 h=>cU h4<|lK h4<|ai (rfl:[(.b false)]=[false].map AV.b)<|ai ff<|aQ h fun h5 h=>ai ((jF AV.b (n:=1) (fun _=>rfl) [false]):([false].map AV.b).all (fun e=>e.nc==1)=true)<|ai ((nr h5 (by decide)):((v0_5.map AV.b).length+([false].map AV.b).length)*1≤140737488355328)<|ai ((nu h5):(v0_5.map AV.b).length+([false].map AV.b).length≤maxLen)<|ai (dc.symm:v0_5.map AV.b++[false].map AV.b=(v0_5++[false]).map AV.b)<|aQ h fun w6 h=>ai w6<|L h)) (fun h1 h=>ai (aw h1)<|L h)
abbrev NA(a0:(List Bool))(a1:(List Bool))(r:(List Bool)):bm×HP:=(.ret (.l 4 (r.map AV.b)),H0)
def vu:Option (List Bool):=
 (lp (fun v=>mm a0 a1 v.1 v.2) (([]:List Bool),0)).bind fun (x1:((List Bool)×Nat×Bool))=>
 some x1.1
theorem I4(r:(List Bool))(h:vu a0 a1=some r):call G Ω0 E0 127 [(.l 4 (a0.map AV.b)),(.l 4 (a1.map AV.b))] H0=some (NA a0 a1 r):=
 aW aiP (ao (.i (a0.length:Int))<|.ex fun (x1:((List Bool)×Nat×Bool))=>ao (.bT (Ce a0 a1 x1))<|.nil) fun L=>ai (aC AV.b a0)<|aU h (ei (fun v=>I3 a0 a1 v.1 v.2) (([]:List Bool),0)) fun x1 h=>L h
def nO(v0_5:(List Bool))(v0_10:Nat):Option (((List Bool)×Nat)⊕((List Bool)×Nat×Bool)):=
 if (v0_10:Int)<(a0.length:Int) then
  (a0[v0_10]?).bind fun (y2:Bool)=>
  if y2=true then
   if v0_5.length + [true].length≤1000000000 then
    if IntKind.i64.wrap ((v0_10:Int)+1)=((v0_10+1:Nat):Int) then
     some (.inl (v0_5++[true],v0_10+1))
    else none
   else none
  else
   (a1[v0_10]?).bind fun (y5:Bool)=>
   if v0_5.length + [y5].length≤1000000000 then
    if IntKind.i64.wrap ((v0_10:Int)+1)=((v0_10+1:Nat):Int) then
     some (.inl (v0_5++[y5],v0_10+1))
    else none
   else none
 else
  some (.inr (v0_5,v0_10,decide ((v0_10:Int)<(a0.length:Int))))
abbrev Mh(v:((List Bool)×Nat)):St:=⟨[(1,(.l 4 (a1.map AV.b))),(5,(.o 4 (v.1.map AV.b))),(8,(.l 4 (a0.map AV.b))),(9,(I (a0.length:Int))),(10,(I (v.2:Int)))],[],H0⟩
abbrev Dx(x:((List Bool)×Nat×Bool)):aH×St:=((.ex 0),⟨[(1,(.l 4 (a1.map AV.b))),(5,(.o 4 (x.1.map AV.b))),(8,(.l 4 (a0.map AV.b))),(9,(I (a0.length:Int))),(10,(I (x.2.1:Int))),(11,(.b x.2.2))],[],H0⟩)
theorem Kv(v0_5:(List Bool))(v0_10:Nat)(o:((List Bool)×Nat)⊕((List Bool)×Nat×Bool))(h:nO a0 a1 v0_5 v0_10=some o):bu E0 QN (Mh a0 a1) (Dx a0 a1) (v0_5,v0_10) o:=
 bH (.or (bt<|ao (.n v0_10)<|xB fun y2=>.or (N8<|ao (.l ([true].map AV.b))<|ao (.l ((v0_5++[true]).map AV.b))<|ao (.i ((v0_10+1:Nat):Int))<|.nil) (eF<|ao (.n v0_10)<|xB fun y5=>vV<|ao (.l ([y5].map AV.b))<|ao (.l ((v0_5++[y5]).map AV.b))<|ao (.i ((v0_10+1:Nat):Int))<|.nil)) (bf<|.nil)) fun L=>bL h (fun h1 h=>ai (av h1)<|ai (rI v0_10)<|cb h fun y2 h3 h=>ai (aD AV.b h3)<|bz h (fun h4 h=>N7 h4<|ai (rfl:[(.b true)]=[true].map AV.b)<|ai ff<|aQ h fun h5 h=>ai ((jF AV.b (n:=1) (fun _=>rfl) [true]):([true].map AV.b).all (fun e=>e.nc==1)=true)<|ai ((nr h5 (by decide)):((v0_5.map AV.b).length+([true].map AV.b).length)*1≤140737488355328)<|ai ((nu h5):(v0_5.map AV.b).length+([true].map AV.b).length≤maxLen)<|ai (dc.symm:v0_5.map AV.b++[true].map AV.b=(v0_5++[true]).map AV.b)<|aQ h fun w6 h=>ai w6<|L h) (fun h4 h=>eD h4<|ai (rI v0_10)<|cb h fun y5 h6 h=>ai (aD AV.b h6)<|lJ h4<|ai (rfl:[(.b y5)]=[y5].map AV.b)<|ai ff<|aQ h fun h7 h=>ai ((jF AV.b (n:=1) (fun _=>rfl) [y5]):([y5].map AV.b).all (fun e=>e.nc==1)=true)<|ai ((nr h7 (by decide)):((v0_5.map AV.b).length+([y5].map AV.b).length)*1≤140737488355328)<|ai ((nu h7):(v0_5.map AV.b).length+([y5].map AV.b).length≤maxLen)<|ai (dc.symm:v0_5.map AV.b++[y5].map AV.b=(v0_5++[y5]).map AV.b)<|aQ h fun w8 h=>ai w8<|L h)) (fun h1 h=>ai (aw h1)<|L h)
abbrev PQ(a0:(List Bool))(a1:(List Bool))(r:(List Bool)):bm×HP:=(.ret (.l 4 (r.map AV.b)),H0)
def xv:Option (List Bool):=
 (lp (fun v=>nO a0 a1 v.1 v.2) (([]:List Bool),0)).bind fun (x1:((List Bool)×Nat×Bool))=>
 some x1.1
theorem Kw(r:(List Bool))(h:xv a0 a1=some r):call G Ω0 E0 126 [(.l 4 (a0.map AV.b)),(.l 4 (a1.map AV.b))] H0=some (PQ a0 a1 r):=
 aW aiO (ao (.i (a0.length:Int))<|.ex fun (x1:((List Bool)×Nat×Bool))=>ao (.bT (Dx a0 a1 x1))<|.nil) fun L=>ai (aC AV.b a0)<|aU h (ei (fun v=>Kv a0 a1 v.1 v.2) (([]:List Bool),0)) fun x1 h=>L h
end
section
variable (a0:Level)(a1:Level)
abbrev Mi(a0:Level)(a1:Level)(r:Level):bm×HP:=(.ret (.a [(.l 4 (r.Readers.map AV.b)),(.l 4 (r.Writers.map AV.b))]),H0)
def ew:Option Level:=
 (vu a0.Readers a1.Readers).bind fun (r1:(List Bool))=>
 (xv a0.Writers a1.Writers).bind fun (r3:(List Bool))=>
 some (⟨r1,r3⟩:Level)
theorem mL(r:Level)(h:ew a0 a1=some r):call G Ω0 E0 98 [(.a [(.l 4 (a0.Readers.map AV.b)),(.l 4 (a0.Writers.map AV.b))]),(.a [(.l 4 (a1.Readers.map AV.b)),(.l 4 (a1.Writers.map AV.b))])] H0=some (Mi a0 a1 r):=
 aW G98 (dG<|.ex fun (r1:(List Bool))=>ao (.v (.l 4 (r1.map AV.b)))<|dG<|.ex fun (r3:(List Bool))=>ao (.v (.l 4 (r3.map AV.b)))<|dG<|.nil) fun L=>bW<|bW<|et<|bW<|ai (rfl:Z0)<|ai tt<|aU h (I4 a0.Readers a1.Readers) fun r1 h=>bW<|ai (rfl:Z0)<|bW<|ai (rfl:Z0)<|ai tt<|aU h (Kw a0.Writers a1.Writers) fun r3 h=>PA<|L h
end
section
variable (a0:ah)
abbrev I5(a0:ah)(r:Level):bm×HP:=(.ret (.a [(.l 4 (r.Readers.map AV.b)),(.l 4 (r.Writers.map AV.b))]),H0)
def ir:Option Level:=
 (Pw true a0.Many).bind fun (r1:(List Bool))=>
 (eI a0.Many).bind fun (j3:Nat)=>
 if j3≤1000000000 then
  some (⟨r1,List.replicate j3 false⟩:Level)
 else none
theorem nx(r:Level)(h:ir a0=some r):call G Ω0 E0 96 [(.a [(I a0.Many),(.l 166 (a0.Grants.map aE))])] H0=some (I5 a0 r):=
 aW G96 (ao (.l ([true].map AV.b))<|bt<|.ex fun (r1:(List Bool))=>ao (.v (.l 4 (r1.map AV.b)))<|bt<|xN fun j3=>ao (.l ((List.replicate j3 false).map AV.b))<|dG<|.nil) fun L=>bW<|ai tt<|ai (rfl:[(.b true)]=[true].map AV.b)<|IB<|cb h fun r1 ek2 h=>have ek2:Ω0 141 [(.l 4 ([true].map AV.b)),(I a0.Many)]=some (.l 4 (r1.map AV.b)):=V8 ek2;ai ek2<|IB<|ou h fun j3 h4 h=>ai h4<|aQ h fun h5 h=>ai ((K8 h5 (by decide)):j3*1≤140737488355328)<|ai ((K9 h5):j3≤maxLen)<|ai ((ze ..).symm:List.replicate j3 (.b false)=(List.replicate j3 false).map AV.b)<|JL<|L h
end
section
variable (a0:(List Bool))(a1:(List Bool))
def kt(v0_9:Nat):Option (Nat⊕(Unit⊕(Nat×Bool))):=
 if (v0_9:Int)<(a0.length:Int) then
  (a0[v0_9]?).bind fun (y2:Bool)=>
  if y2=true then
   (a1[v0_9]?).bind fun (y5:Bool)=>
   if y5=true then
    if IntKind.i64.wrap ((v0_9:Int)+1)=((v0_9+1:Nat):Int) then
     some (.inl (v0_9+1))
    else none
   else
    some (.inr (.inl ()))
  else
   if IntKind.i64.wrap ((v0_9:Int)+1)=((v0_9+1:Nat):Int) then
    some (.inl (v0_9+1))
   else none
 else
  some (.inr (.inr (v0_9,decide ((v0_9:Int)<(a0.length:Int)))))
abbrev Kx(v:Nat):St:=⟨[(1,(.l 4 (a1.map AV.b))),(7,(.l 4 (a0.map AV.b))),(8,(I (a0.length:Int))),(9,(I (v:Int)))],[],H0⟩
abbrev wM(x:(Unit⊕(Nat×Bool))):aH×St:=match x with | .inl ()=>(.ret,⟨[(4,(.b false))],[],H0⟩) | .inr (z1,z2)=>((.ex 0),⟨[(1,(.l 4 (a1.map AV.b))),(7,(.l 4 (a0.map AV.b))),(8,(I (a0.length:Int))),(9,(I (z1:Int))),(10,(.b z2))],[],H0⟩)
theorem I6(v0_9:Nat)(o:Nat⊕(Unit⊕(Nat×Bool)))(h:kt a0 a1 v0_9=some o):bu E0 QB (Kx a0 a1) (wM a0 a1) v0_9 o:=
 bH (.or (bt<|ao (.n v0_9)<|xB fun y2=>.or (eF<|ao (.n v0_9)<|xB fun y5=>eF<|.or (bf<|ao (.i ((v0_9+1:Nat):Int))<|.nil) (bt<|.nil)) (Ty<|ao (.i ((v0_9+1:Nat):Int))<|.nil)) (bf<|.nil)) fun L=>bL h (fun h1 h=>ai (av h1)<|ai (rI v0_9)<|cb h fun y2 h3 h=>ai (aD AV.b h3)<|bz h (fun h4 h=>cU h4<|ai (rI v0_9)<|cb h fun y5 h6 h=>ai (aD AV.b h6)<|ua h4<|bz h (fun h7 h=>ai (ak not h7)<|aQ h fun w8 h=>ai w8<|L h) (fun h7 h=>ai (ak not h7)<|L h)) (fun h4 h=>cU h4<|ai (g1 h4)<|lK h4<|ai ff<|aQ h fun w5 h=>ai w5<|L h)) (fun h1 h=>ai (aw h1)<|L h)
abbrev NB(a0:(List Bool))(a1:(List Bool))(r:Bool):bm×HP:=(.ret (.b r),H0)
def sy:Option Bool:=
 (lp (fun v=>kt a0 a1 v) 0).bind fun (x1:(Unit⊕(Nat×Bool)))=>match x1 with
 | .inl ya_2=>
  some false
 | .inr yb_2=>
  some true
theorem AR(r:Bool)(h:sy a0 a1=some r):call G Ω0 E0 109 [(.l 4 (a0.map AV.b)),(.l 4 (a1.map AV.b))] H0=some (NB a0 a1 r):=
 aW aiD (ao (.i (a0.length:Int))<|.or (.ex fun (ya_2:Unit)=>ao (.bT (wM a0 a1 (.inl ya_2)))<|.nil) (.ex fun (yb_2:(Nat×Bool))=>ao (.bT (wM a0 a1 (.inr yb_2)))<|.nil)) fun L=>ai (aC AV.b a0)<|dA h (ei (I6 a0 a1) 0) (fun ya_2 h=>L h) (fun yb_2 h=>L h)
end
section
variable (a0:Level)(a1:Level)
abbrev Ky(a0:Level)(a1:Level)(r:Bool):bm×HP:=(.ret (.b r),H0)
def fG:Option Bool:=
 (sy a1.Readers a0.Readers).bind fun (r1:Bool)=>
 if r1=true then
  (sy a0.Writers a1.Writers).bind fun (r4:Bool)=>
  some r4
 else
  some false
theorem lR(r:Bool)(h:fG a0 a1=some r):call G Ω0 E0 43 [(.a [(.l 4 (a0.Readers.map AV.b)),(.l 4 (a0.Writers.map AV.b))]),(.a [(.l 4 (a1.Readers.map AV.b)),(.l 4 (a1.Writers.map AV.b))])] H0=some (Ky a0 a1 r):=
 aW G43 (dG<|xB fun r1=>.or (Dc<|xB fun r4=>bt<|.nil) (Rf<|.nil)) fun L=>Iz<|aU h (AR a1.Readers a0.Readers) fun r1 h=>bz h (fun h3 h=>PB h3<|aU h (AR a0.Writers a1.Writers) fun r4 h=>ai h3<|L h) (fun h3 h=>LG h3<|L h)
end
section
variable (a0:ah)
def ly(v0_3:(List (List Bool)))(v0_12:Nat)(v1_5:(List Bool))(y9:Int)(j12:Nat)(v2_6:(List Int))(v2_44:Nat):Option (((List Int)×Nat)⊕((List Int)×Nat×Bool)):=
 if (v2_44:Int)<(a0.Grants.length:Int) then
  (a0.Grants[v2_44]?).bind fun (y18:cB)=>
  if (y18.Who==y9)=true then
   if v2_6.length + [y18.For].length≤1000000000 then
    if IntKind.i64.wrap ((v2_44:Int)+1)=((v2_44+1:Nat):Int) then
     some (.inl (v2_6++[y18.For],v2_44+1))
    else none
   else none
  else
   if IntKind.i64.wrap ((v2_44:Int)+1)=((v2_44+1:Nat):Int) then
    some (.inl (v2_6,v2_44+1))
   else none
 else
  some (.inr (v2_6,v2_44,decide ((v2_44:Int)<(a0.Grants.length:Int))))
abbrev I7(v0_3:(List (List Bool)))(v0_12:Nat)(v1_5:(List Bool))(y9:Int)(j12:Nat)(v:((List Int)×Nat)):St:=⟨[(1,(.p ⟨0,1⟩ 0)),(3,(.o 43 (v0_3.map (eg 4 AV.b)))),(5,(.o 4 ((v1_5.set j12 true).map AV.b))),(6,(.o 3 (v.1.map (I)))),(7,(I y9)),(11,(I a0.Many)),(12,(I (v0_12:Int))),(29,.u),(42,(.l 166 (a0.Grants.map aE))),(43,(I (a0.Grants.length:Int))),(44,(I (v.2:Int)))],[(1,[(I a0.Many),(.l 166 (a0.Grants.map aE))])],H0⟩
abbrev AS(v0_3:(List (List Bool)))(v0_12:Nat)(v1_5:(List Bool))(y9:Int)(j12:Nat)(x:((List Int)×Nat×Bool)):aH×St:=((.ex 4),⟨[(1,(.p ⟨0,1⟩ 0)),(3,(.o 43 (v0_3.map (eg 4 AV.b)))),(5,(.o 4 ((v1_5.set j12 true).map AV.b))),(6,(.o 3 (x.1.map (I)))),(7,(I y9)),(11,(I a0.Many)),(12,(I (v0_12:Int))),(29,.u),(42,(.l 166 (a0.Grants.map aE))),(43,(I (a0.Grants.length:Int))),(44,(I (x.2.1:Int))),(45,(.b x.2.2))],[(1,[(I a0.Many),(.l 166 (a0.Grants.map aE))])],H0⟩)
theorem Hk(v0_3:(List (List Bool)))(v0_12:Nat)(v1_5:(List Bool))(y9:Int)(j12:Nat)(v2_6:(List Int))(v2_44:Nat)(o:((List Int)×Nat)⊕((List Int)×Nat×Bool))(h:ly a0 v0_3 v0_12 v1_5 y9 j12 v2_6 v2_44=some o):bu E0 Qx (I7 a0 v0_3 v0_12 v1_5 y9 j12) (AS a0 v0_3 v0_12 v1_5 y9 j12) (v2_6,v2_44) o:=
 bH (.or (bt<|ao (.n v2_44)<|.ex fun (y18:cB)=>ao (.v (.a [(I y18.Who),(I y18.For)]))<|eF<|.or (dG<|ao (.l ([y18.For].map (I)))<|ao (.l ((v2_6++[y18.For]).map (I)))<|ao (.i ((v2_44+1:Nat):Int))<|.nil) (bf<|ao (.i ((v2_44+1:Nat):Int))<|.nil)) (bf<|.nil)) fun L=>bL h (fun h17 h=>ai (av h17)<|ai (rI v2_44)<|cb h fun y18 h19 h=>ai (aD aE h19)<|JL<|bz h (fun h20 h=>nI h20<|ai (rfl:[(I y18.For)]=[y18.For].map (I))<|ai ff<|aQ h fun h21 h=>ai ((jF (I) (n:=1) (fun _=>rfl) [y18.For]):([y18.For].map (I)).all (fun e=>e.nc==1)=true)<|ai ((nr h21 (by decide)):((v2_6.map (I)).length+([y18.For].map (I)).length)*8≤140737488355328)<|ai ((nu h21):(v2_6.map (I)).length+([y18.For].map (I)).length≤maxLen)<|ai (dc.symm:v2_6.map (I)++[y18.For].map (I)=(v2_6++[y18.For]).map (I))<|aQ h fun w22 h=>ai w22<|L h) (fun h20 h=>ai h20<|aQ h fun w21 h=>ai w21<|L h)) (fun h17 h=>ai (aw h17)<|L h)
def jw(v0_3:(List (List Bool)))(v0_12:Nat)(v1_6:(List Int))(v1_5:(List Bool)):Option (((List Int)×(List Bool))⊕((List Bool)×(List Int)×Bool)):=
 if 0<(v1_6.length:Int) then
  if IntKind.i64.wrap ((v1_6.length:Int) - 1)=(v1_6.length:Int) - 1 then
   (eI ((v1_6.length:Int) - 1)).bind fun (j7:Nat)=>
   (v1_6[j7]?).bind fun (y9:Int)=>
   if j7≤v1_6.length then
    (eI y9).bind fun (j12:Nat)=>
    (v1_5[j12]?).bind fun (y14:Bool)=>
    if y14=true then
     some (.inl (v1_6.take j7,v1_5))
    else
     (lp (fun v=>ly a0 v0_3 v0_12 v1_5 y9 j12 v.1 v.2) ((v1_6.take j7),0)).bind fun (x17:((List Int)×Nat×Bool))=>
     some (.inl (x17.1,v1_5.set j12 true))
   else none
  else none
 else
  some (.inr (v1_5,v1_6,decide (0<(v1_6.length:Int))))
abbrev I8(v0_3:(List (List Bool)))(v0_12:Nat)(v:((List Int)×(List Bool))):St:=⟨[(1,(.p ⟨0,1⟩ 0)),(3,(.o 43 (v0_3.map (eg 4 AV.b)))),(5,(.o 4 (v.2.map AV.b))),(6,(.o 3 (v.1.map (I)))),(11,(I a0.Many)),(12,(I (v0_12:Int))),(29,.u)],[(1,[(I a0.Many),(.l 166 (a0.Grants.map aE))])],H0⟩
abbrev AU(v0_3:(List (List Bool)))(v0_12:Nat)(x:((List Bool)×(List Int)×Bool)):aH×St:=((.ex 2),⟨[(1,(.p ⟨0,1⟩ 0)),(3,(.o 43 (v0_3.map (eg 4 AV.b)))),(5,(.o 4 (x.1.map AV.b))),(6,(.o 3 (x.2.1.map (I)))),(11,(I a0.Many)),(12,(I (v0_12:Int))),(22,(.b x.2.2)),(29,.u)],[(1,[(I a0.Many),(.l 166 (a0.Grants.map aE))])],H0⟩)
theorem Hl(v0_3:(List (List Bool)))(v0_12:Nat)(v1_6:(List Int))(v1_5:(List Bool))(o:((List Int)×(List Bool))⊕((List Bool)×(List Int)×Bool))(h:jw a0 v0_3 v0_12 v1_6 v1_5=some o):bu E0 Qy (I8 a0 v0_3 v0_12) (AU a0 v0_3 v0_12) (v1_6,v1_5) o:=
 bH (ao (.i (v1_6.length:Int))<|.or (bt<|ao (.i (v1_6.length:Int))<|ao (.i ((v1_6.length:Int) - 1))<|xN fun j7=>xI fun y9=>ao (.v (I y9))<|ao (.i (v1_6.length:Int))<|ao (.i ((v1_6.length:Int) - 1))<|ao (.n j7)<|ao (.n j7)<|bt<|ao (.l ((v1_6.take j7).map (I)))<|xN fun j12=>xB fun y14=>ao (.v (.b y14))<|oN (ao (.n j12)<|ao (.v (.b y14))<|ao (.v (.b y14))<|ao (.l ((v1_5.set j12 true).map AV.b))<|bt<|ao (.i (a0.Grants.length:Int))<|.ex fun (x17:((List Int)×Nat×Bool))=>ao (.bT (AS a0 v0_3 v0_12 v1_5 y9 j12 x17))<|.nil)) (bf<|.nil)) fun L=>ai (aC (I) v1_6)<|bL h (fun h5 h=>ai (av h5)<|ai (aC (I) v1_6)<|aQ h fun w6 h=>ai w6<|ou h fun j7 h8 h=>ai h8<|cb h fun y9 h10 h=>ai (aD (I) h10)<|ai (aD (I) h10)<|ai (aC (I) v1_6)<|ai w6<|ai h8<|ai (b9 _:0≤j7)<|aQ h fun h11 h=>ai ((by rw [fh];exact h11):j7≤(v1_6.map (I)).length)<|ai ((by simp):j7 - 0=j7)<|ai (rfl:((.s 6):Pl)=(.s 6))<|ai ((by rw [fh];exact h11):j7≤(v1_6.map (I)).length)<|ai (map_take (I) v1_6 j7)<|ou h fun j12 h13 h=>ai h13<|cb h fun y14 h15 h=>ai (aD AV.b h15)<|ai (aD AV.b h15)<|bz h (fun h16 h=>ai h16<|L h) (fun h16 h=>ai h16<|ai h13<|ai (aD AV.b h15)<|ai ff<|ai (aD AV.b h15)<|ai (map_set .. : (v1_5.map AV.b).set j12 (.b true)=(v1_5.set j12 true).map AV.b)<|ai (rfl:Z0)<|ai (aC aE a0.Grants)<|aU h (ei (fun v=>Hk a0 v0_3 v0_12 v1_5 y9 j12 v.1 v.2) ((v1_6.take j7),0)) fun x17 h=>L h)) (fun h5 h=>ai (aw h5)<|L h)
def lz(v0_3:(List (List Bool)))(v0_12:Nat):Option (((List (List Bool))×Nat)⊕((List (List Bool))×Nat×Bool)):=
 if (v0_12:Int)<a0.Many then
  (eI a0.Many).bind fun (j2:Nat)=>
  if j2≤1000000000 then
   (lp (fun v=>jw a0 v0_3 v0_12 v.1 v.2) (([(v0_12:Int)]),(List.replicate j2 false))).bind fun (x5:((List Bool)×(List Int)×Bool))=>
   if v0_3.length + [x5.1].length≤1000000000 then
    if IntKind.i64.wrap ((v0_12:Int)+1)=((v0_12+1:Nat):Int) then
     some (.inl (v0_3++[x5.1],v0_12+1))
    else none
   else none
  else none
 else
  some (.inr (v0_3,v0_12,decide ((v0_12:Int)<a0.Many)))
abbrev I9(v:((List (List Bool))×Nat)):St:=⟨[(1,(.p ⟨0,1⟩ 0)),(3,(.o 43 (v.1.map (eg 4 AV.b)))),(11,(I a0.Many)),(12,(I (v.2:Int)))],[(1,[(I a0.Many),(.l 166 (a0.Grants.map aE))])],H0⟩
abbrev AW(x:((List (List Bool))×Nat×Bool)):aH×St:=((.ex 0),⟨[(1,(.p ⟨0,1⟩ 0)),(3,(.o 43 (x.1.map (eg 4 AV.b)))),(11,(I a0.Many)),(12,(I (x.2.1:Int))),(13,(.b x.2.2))],[(1,[(I a0.Many),(.l 166 (a0.Grants.map aE))])],H0⟩)
theorem Hm(v0_3:(List (List Bool)))(v0_12:Nat)(o:((List (List Bool))×Nat)⊕((List (List Bool))×Nat×Bool))(h:lz a0 v0_3 v0_12=some o):bu E0 Qz (I9 a0) (AW a0) (v0_3,v0_12) o:=
 bH (.or (dG<|xN fun j2=>ao (.l ((List.replicate j2 false).map AV.b))<|ao (.l (([(v0_12:Int)]).map (I)))<|.ex fun (x5:((List Bool)×(List Int)×Bool))=>ao (.bT (AU a0 v0_3 v0_12 x5))<|ao (.l ([x5.1].map (eg 4 AV.b)))<|ao (.l ((v0_3++[x5.1]).map (eg 4 AV.b)))<|ao (.i ((v0_12+1:Nat):Int))<|.nil) (bf<|.nil)) fun L=>bL h (fun h1 h=>nI (av h1)<|ou h fun j2 h3 h=>ai h3<|aQ h fun h4 h=>ai ((K8 h4 (by decide)):j2*1≤140737488355328)<|ai ((K9 h4):j2≤maxLen)<|ai ((ze ..).symm:List.replicate j2 (.b false)=(List.replicate j2 false).map AV.b)<|ai (rfl:[(I (v0_12:Int))]=([(v0_12:Int)]).map (I))<|aU h (ei (fun v=>Hl a0 v0_3 v0_12 v.1 v.2) (([(v0_12:Int)]),(List.replicate j2 false))) fun x5 h=>ai (rfl:[(.l 4 (x5.1.map AV.b))]=[x5.1].map (eg 4 AV.b))<|ai ff<|aQ h fun h7 h=>ai ((jF (eg 4 AV.b) (n:=1) (fun _=>rfl) [x5.1]):([x5.1].map (eg 4 AV.b)).all (fun e=>e.nc==1)=true)<|ai ((nr h7 (by decide)):((v0_3.map (eg 4 AV.b)).length+([x5.1].map (eg 4 AV.b)).length)*24≤140737488355328)<|ai ((nu h7):(v0_3.map (eg 4 AV.b)).length+([x5.1].map (eg 4 AV.b)).length≤maxLen)<|ai (dc.symm:v0_3.map (eg 4 AV.b)++[x5.1].map (eg 4 AV.b)=(v0_3++[x5.1]).map (eg 4 AV.b))<|aQ h fun w8 h=>ai w8<|L h) (fun h1 h=>ai (aw h1)<|L h)
abbrev Mj(a0:ah)(r:(List (List Bool))):bm×HP:=(.ret (.l 43 (r.map (eg 4 AV.b))),H0)
def uj:Option (List (List Bool)):=
 (lp (fun v=>lz a0 v.1 v.2) (([]:List (List Bool)),0)).bind fun (x1:((List (List Bool))×Nat×Bool))=>
 some x1.1
theorem Hn(r:(List (List Bool)))(h:uj a0=some r):call G Ω0 E0 102 [(.a [(I a0.Many),(.l 166 (a0.Grants.map aE))])] H0=some (Mj a0 r):=
 aW aix (bt<|.ex fun (x1:((List (List Bool))×Nat×Bool))=>ao (.bT (AW a0 x1))<|.nil) fun L=>et<|aU h (ei (fun v=>Hm a0 v.1 v.2) (([]:List (List Bool)),0)) fun x1 h=>L h
end
section
variable (a0:Int)(a1:(List (List Bool)))(a2:Int)
abbrev FW(a0:Int)(a1:(List (List Bool)))(a2:Int)(r:Bool):bm×HP:=(.ret (.b r),H0)
def lS:Option Bool:=
 (eI a2).bind fun (j1:Nat)=>
 (a1[j1]?).bind fun (y3:(List Bool))=>
 (eI a0).bind fun (j5:Nat)=>
 (y3[j5]?).bind fun (y7:Bool)=>
 some y7
theorem Co(r:Bool)(h:lS a0 a1 a2=some r):call G Ω0 E0 106 [(I a0),(.e (.l 43 (a1.map (eg 4 AV.b))) 0),(.e (I a2) 0)] H0=some (FW a0 a1 a2 r):=
 aW aiA (xN fun j1=>.ex fun (y3:(List Bool))=>ao (.v (.l 4 (y3.map AV.b)))<|xN fun j5=>xB fun y7=>.nil) fun L=>ou h fun j1 h2 h=>ai h2<|cb h fun y3 h4 h=>ai (aD (eg 4 AV.b) h4)<|ou h fun j5 h6 h=>ai h6<|cb h fun y7 h8 h=>ai (aD AV.b h8)<|L h
end
section
variable (a0:(List Int))(a1:(List (List Bool)))(a2:Int)
def jQ(v0_8:Nat):Option (Nat⊕(Nat⊕(Nat×Bool))):=
 if (v0_8:Int)<(a0.length:Int) then
  (a0[v0_8]?).bind fun (y2:Int)=>
  (lS y2 a1 a2).bind fun (r4:Bool)=>
  if r4=true then
   some (.inr (.inl v0_8))
  else
   if IntKind.i64.wrap ((v0_8:Int)+1)=((v0_8+1:Nat):Int) then
    some (.inl (v0_8+1))
   else none
 else
  some (.inr (.inr (v0_8,decide ((v0_8:Int)<(a0.length:Int)))))
abbrev qE(v:Nat):St:=⟨[(0,(.l 3 (a0.map (I)))),(1,(.f 106 [(.e (.l 43 (a1.map (eg 4 AV.b))) 0),(.e (I a2) 0)])),(7,(I (a0.length:Int))),(8,(I (v:Int)))],[],H0⟩
abbrev fx(x:(Nat⊕(Nat×Bool))):aH×St:=match x with | .inl z1=>(.ret,⟨[(4,(I (z1:Int)))],[],H0⟩) | .inr (z1,z2)=>((.ex 0),⟨[(0,(.l 3 (a0.map (I)))),(1,(.f 106 [(.e (.l 43 (a1.map (eg 4 AV.b))) 0),(.e (I a2) 0)])),(7,(I (a0.length:Int))),(8,(I (z1:Int))),(9,(.b z2))],[],H0⟩)
theorem pP(v0_8:Nat)(o:Nat⊕(Nat⊕(Nat×Bool)))(h:jQ a0 a1 a2 v0_8=some o):bu E0 GL (qE a0 a1 a2) (fx a0 a1 a2) v0_8 o:=
 bH (.or (bt<|ao (.n v0_8)<|xI fun y2=>xB fun r4=>oN (ao (.i ((v0_8+1:Nat):Int))<|.nil)) (bf<|.nil)) fun L=>bL h (fun h1 h=>ai (av h1)<|ai (rI v0_8)<|cb h fun y2 h3 h=>ai (aD (I) h3)<|aU h (Co y2 a1 a2) fun r4 h=>bz h (fun h6 h=>ai h6<|L h) (fun h6 h=>ai h6<|aQ h fun w7 h=>ai w7<|L h)) (fun h1 h=>ai (aw h1)<|L h)
abbrev sd(a0:(List Int))(a1:(List (List Bool)))(a2:Int)(r:Int):bm×HP:=(.ret (I r),H0)
def kH:Option Int:=
 (lp (fun v=>jQ a0 a1 a2 v) 0).bind fun (x1:(Nat⊕(Nat×Bool)))=>match x1 with
 | .inl ya_2=>
  some (ya_2:Int)
 | .inr yb_2=>
  some (-1)
theorem pQ(r:Int)(h:kH a0 a1 a2=some r):call G Ω0 E0 143 [(.l 3 (a0.map (I))),(.f 106 [(.e (.l 43 (a1.map (eg 4 AV.b))) 0),(.e (I a2) 0)])] H0=some (sd a0 a1 a2 r):=
 aW Tk (ao (.i (a0.length:Int))<|.or (.ex fun (ya_2:Nat)=>ao (.bT (fx a0 a1 a2 (.inl ya_2)))<|.nil) (.ex fun (yb_2:(Nat×Bool))=>ao (.bT (fx a0 a1 a2 (.inr yb_2)))<|.nil)) fun L=>ai (aC (I) a0)<|dA h (ei (pP a0 a1 a2) 0) (fun ya_2 h=>L h) (fun yb_2 h=>L h)
abbrev pR(a0:(List Int))(a1:(List (List Bool)))(a2:Int)(r:Bool):bm×HP:=(.ret (.b r),H0)
def fc:Option Bool:=
 (kH a0 a1 a2).bind fun (r1:Int)=>
 some (decide (0≤r1))
theorem oC(r:Bool)(h:fc a0 a1 a2=some r):call G Ω0 E0 105 [(.l 3 (a0.map (I))),(.f 106 [(.e (.l 43 (a1.map (eg 4 AV.b))) 0),(.e (I a2) 0)])] H0=some (pR a0 a1 a2 r):=
 aW Tj (xI fun r1=>.nil) fun L=>aU h (pQ a0 a1 a2) fun r1 h=>L h
end
section
variable (a0:br)(a1:(List (List Bool)))(a2:Int)
abbrev Ja(a0:br)(a1:(List (List Bool)))(a2:Int)(r:Bool):bm×HP:=(.ret (.b r),H0)
def nP:Option Bool:=
 (eI a2).bind fun (j1:Nat)=>
 (a1[j1]?).bind fun (y3:(List Bool))=>
 (eI a0.Owner).bind fun (j5:Nat)=>
 (y3[j5]?).bind fun (y7:Bool)=>
 if y7=true then
  some false
 else
  (fc a0.Names a1 a2).bind fun (r10:Bool)=>
  some (!r10)
theorem ET(r:Bool)(h:nP a0 a1 a2=some r):call G Ω0 E0 104 [(.a [(I a0.Owner),(.l 3 (a0.Names.map (I)))]),(.e (.l 43 (a1.map (eg 4 AV.b))) 0),(.e (I a2) 0)] H0=some (Ja a0 a1 a2 r):=
 aW aiz (xN fun j1=>.ex fun (y3:(List Bool))=>ao (.v (.l 4 (y3.map AV.b)))<|bt<|xN fun j5=>xB fun y7=>.or (Rf<|.nil) (pj<|xB fun r10=>dG<|.nil)) fun L=>xW<|ou h fun j1 h2 h=>ai h2<|cb h fun y3 h4 h=>ai (aD (eg 4 AV.b) h4)<|bW<|et<|ai tt<|ou h fun j5 h6 h=>ai h6<|cb h fun y7 h8 h=>ai (aD AV.b h8)<|xW<|bz h (fun h9 h=>LG (ak not h9)<|L h) (fun h9 h=>Tw (ak not h9)<|aU h (oC a0.Names a1 a2) fun r10 h=>lK (ak not h9)<|L h)
end
section
variable (a0:(List br))(a1:(List (List Bool)))(a2:Int)
def kJ(v0_8:Nat):Option (Nat⊕(Nat⊕(Nat×Bool))):=
 if (v0_8:Int)<(a0.length:Int) then
  (a0[v0_8]?).bind fun (y2:br)=>
  (nP y2 a1 a2).bind fun (r4:Bool)=>
  if r4=true then
   some (.inr (.inl v0_8))
  else
   if IntKind.i64.wrap ((v0_8:Int)+1)=((v0_8+1:Nat):Int) then
    some (.inl (v0_8+1))
   else none
 else
  some (.inr (.inr (v0_8,decide ((v0_8:Int)<(a0.length:Int)))))
abbrev sf(v:Nat):St:=⟨[(0,(.l 138 (a0.map aF))),(1,(.f 104 [(.e (.l 43 (a1.map (eg 4 AV.b))) 0),(.e (I a2) 0)])),(7,(I (a0.length:Int))),(8,(I (v:Int)))],[],H0⟩
abbrev gx(x:(Nat⊕(Nat×Bool))):aH×St:=match x with | .inl z1=>(.ret,⟨[(4,(I (z1:Int)))],[],H0⟩) | .inr (z1,z2)=>((.ex 0),⟨[(0,(.l 138 (a0.map aF))),(1,(.f 104 [(.e (.l 43 (a1.map (eg 4 AV.b))) 0),(.e (I a2) 0)])),(7,(I (a0.length:Int))),(8,(I (z1:Int))),(9,(.b z2))],[],H0⟩)
theorem rB(v0_8:Nat)(o:Nat⊕(Nat⊕(Nat×Bool)))(h:kJ a0 a1 a2 v0_8=some o):bu E0 QW (sf a0 a1 a2) (gx a0 a1 a2) v0_8 o:=
 bH (.or (bt<|ao (.n v0_8)<|.ex fun (y2:br)=>ao (.v (.a [(I y2.Owner),(.l 3 (y2.Names.map (I)))]))<|xB fun r4=>oN (ao (.i ((v0_8+1:Nat):Int))<|.nil)) (bf<|.nil)) fun L=>bL h (fun h1 h=>ai (av h1)<|ai (rI v0_8)<|cb h fun y2 h3 h=>ai (aD aF h3)<|aU h (ET y2 a1 a2) fun r4 h=>bz h (fun h6 h=>ai h6<|L h) (fun h6 h=>ai h6<|aQ h fun w7 h=>ai w7<|L h)) (fun h1 h=>ai (aw h1)<|L h)
abbrev tk(a0:(List br))(a1:(List (List Bool)))(a2:Int)(r:Int):bm×HP:=(.ret (I r),H0)
def lT:Option Int:=
 (lp (fun v=>kJ a0 a1 a2 v) 0).bind fun (x1:(Nat⊕(Nat×Bool)))=>match x1 with
 | .inl ya_2=>
  some (ya_2:Int)
 | .inr yb_2=>
  some (-1)
theorem rC(r:Int)(h:lT a0 a1 a2=some r):call G Ω0 E0 144 [(.l 138 (a0.map aF)),(.f 104 [(.e (.l 43 (a1.map (eg 4 AV.b))) 0),(.e (I a2) 0)])] H0=some (tk a0 a1 a2 r):=
 aW ai1 (ao (.i (a0.length:Int))<|.or (.ex fun (ya_2:Nat)=>ao (.bT (gx a0 a1 a2 (.inl ya_2)))<|.nil) (.ex fun (yb_2:(Nat×Bool))=>ao (.bT (gx a0 a1 a2 (.inr yb_2)))<|.nil)) fun L=>ai (aC aF a0)<|dA h (ei (rB a0 a1 a2) 0) (fun ya_2 h=>L h) (fun yb_2 h=>L h)
abbrev rD(a0:(List br))(a1:(List (List Bool)))(a2:Int)(r:Bool):bm×HP:=(.ret (.b r),H0)
def fV:Option Bool:=
 (lT a0 a1 a2).bind fun (r1:Int)=>
 some (decide (0≤r1))
theorem o6(r:Bool)(h:fV a0 a1 a2=some r):call G Ω0 E0 107 [(.l 138 (a0.map aF)),(.f 104 [(.e (.l 43 (a1.map (eg 4 AV.b))) 0),(.e (I a2) 0)])] H0=some (rD a0 a1 a2 r):=
 aW aiB (xI fun r1=>.nil) fun L=>aU h (rC a0 a1 a2) fun r1 h=>L h
end
section
variable (a0:(List br))(a1:ah)(a2:(List (List Bool)))
def lA(v0_5:(List Bool))(v0_10:Nat):Option (((List Bool)×Nat)⊕((List Bool)×Nat×Bool)):=
 if (v0_10:Int)<a1.Many then
  (fV a0 a2 (v0_10:Int)).bind fun (r2:Bool)=>
  if v0_5.length+([!r2]).length≤1000000000 then
   if IntKind.i64.wrap ((v0_10:Int)+1)=((v0_10+1:Nat):Int) then
    some (.inl (v0_5++([!r2]),v0_10+1))
   else none
  else none
 else
  some (.inr (v0_5,v0_10,decide ((v0_10:Int)<a1.Many)))
abbrev Jb(v:((List Bool)×Nat)):St:=⟨[(0,(.l 138 (a0.map aF))),(2,(.e (.l 43 (a2.map (eg 4 AV.b))) 0)),(5,(.o 4 (v.1.map AV.b))),(9,(I a1.Many)),(10,(I (v.2:Int)))],[],H0⟩
abbrev AX(x:((List Bool)×Nat×Bool)):aH×St:=((.ex 0),⟨[(0,(.l 138 (a0.map aF))),(2,(.e (.l 43 (a2.map (eg 4 AV.b))) 0)),(5,(.o 4 (x.1.map AV.b))),(9,(I a1.Many)),(10,(I (x.2.1:Int))),(11,(.b x.2.2))],[],H0⟩)
theorem Ho(v0_5:(List Bool))(v0_10:Nat)(o:((List Bool)×Nat)⊕((List Bool)×Nat×Bool))(h:lA a0 a1 a2 v0_5 v0_10=some o):bu E0 QA (Jb a0 a1 a2) (AX a0 a1 a2) (v0_5,v0_10) o:=
 bH (.or (eF<|xB fun r2=>ao (.l (([!r2]).map AV.b))<|ao (.l ((v0_5++([!r2])).map AV.b))<|ao (.i ((v0_10+1:Nat):Int))<|.nil) (bf<|.nil)) fun L=>bL h (fun h1 h=>ai (av h1)<|ai tt<|lL<|et<|ai (rfl:Z0)<|aU h (o6 a0 a2 (v0_10:Int)) fun r2 h=>ai (rfl:[(.b (!r2))]=([!r2]).map AV.b)<|ai ff<|aQ h fun h4 h=>ai ((jF AV.b (n:=1) (fun _=>rfl) ([!r2])):(([!r2]).map AV.b).all (fun e=>e.nc==1)=true)<|ai ((nr h4 (by decide)):((v0_5.map AV.b).length+(([!r2]).map AV.b).length)*1≤140737488355328)<|ai ((nu h4):(v0_5.map AV.b).length+(([!r2]).map AV.b).length≤maxLen)<|ai (dc.symm:v0_5.map AV.b++([!r2]).map AV.b=(v0_5++([!r2])).map AV.b)<|aQ h fun w5 h=>ai w5<|L h) (fun h1 h=>ai (aw h1)<|L h)
abbrev Mk(a0:(List br))(a1:ah)(a2:(List (List Bool)))(r:(List Bool)):bm×HP:=(.ret (.l 4 (r.map AV.b)),H0)
def qF:Option (List Bool):=
 (lp (fun v=>lA a0 a1 a2 v.1 v.2) (([]:List Bool),0)).bind fun (x1:((List Bool)×Nat×Bool))=>
 some x1.1
theorem zP(r:(List Bool))(h:qF a0 a1 a2=some r):call G Ω0 E0 103 [(.l 138 (a0.map aF)),(.e (.a [(I a1.Many),(.l 166 (a1.Grants.map aE))]) 0),(.e (.l 43 (a2.map (eg 4 AV.b))) 0)] H0=some (Mk a0 a1 a2 r):=
 aW aiy (.ex fun (x1:((List Bool)×Nat×Bool))=>ao (.bT (AX a0 a1 a2 x1))<|.nil) fun L=>aU h (ei (fun v=>Ho a0 a1 a2 v.1 v.2) (([]:List Bool),0)) fun x1 h=>L h
end
section
variable (a0:ah)(a1:Label)
abbrev PR(a0:ah)(a1:Label)(r:Level):bm×HP:=(.ret (.a [(.l 4 (r.Readers.map AV.b)),(.l 4 (r.Writers.map AV.b))]),H0)
def jD:Option Level:=
 (uj a0).bind fun (r1:(List (List Bool)))=>
 (qF a1.Read a0 r1).bind fun (r3:(List Bool))=>
 (qF a1.Write a0 r1).bind fun (r5:(List Bool))=>
 some (⟨r3,r5⟩:Level)
theorem wN(r:Level)(h:jD a0 a1=some r):call G Ω0 E0 40 [(.a [(I a0.Many),(.l 166 (a0.Grants.map aE))]),(.a [(.l 138 (a1.Read.map aF)),(.l 138 (a1.Write.map aF))])] H0=some (PR a0 a1 r):=
 aW G40 (bt<|.ex fun (r1:(List (List Bool)))=>ao (.v (.l 43 (r1.map (eg 4 AV.b))))<|eF<|.ex fun (r3:(List Bool))=>ao (.v (.l 4 (r3.map AV.b)))<|bt<|.ex fun (r5:(List Bool))=>ao (.v (.l 4 (r5.map AV.b)))<|dG<|.nil) fun L=>bW<|et<|aU h (Hn a0) fun r1 h=>ai tt<|lL<|et<|uT<|bW<|et<|ai tt<|aU h (zP a1.Read a0 r1) fun r3 h=>bW<|et<|ai tt<|aU h (zP a1.Write a0 r1) fun r5 h=>PA<|L h
end
section
variable (a0:ah)(a1:Level)
abbrev Kz(a0:ah)(a1:Level)(r:Bool):bm×HP:=(.ret (.b r),H0)
def sI:Option Bool:=
 if ((a1.Readers.length:Int)==a0.Many)=true then
  some ((a1.Writers.length:Int)==a0.Many)
 else
  some false
theorem FX(r:Bool)(h:sI a0 a1=some r):call G Ω0 E0 100 [(.a [(I a0.Many),(.l 166 (a0.Grants.map aE))]),(.a [(.l 4 (a1.Readers.map AV.b)),(.l 4 (a1.Writers.map AV.b))])] H0=some (Kz a0 a1 r):=
 aW aiv (bt<|ao (.i (a1.Readers.length:Int))<|bt<|.or (mD<|ao (.i (a1.Writers.length:Int))<|pj<|.nil) (Ty<|.nil)) fun L=>bW<|ai (rfl:Z0)<|ai (aC AV.b a1.Readers)<|ai (rfl:Z0)<|bz h (fun h1 h=>LF h1<|ai (aC AV.b a1.Writers)<|Ai h1<|ai (rfl:Z0)<|lK h1<|L h) (fun h1 h=>cU h1<|cU h1<|ai h1<|L h)
end
end
end Go.Proofs.YtkkkkondjclcnaaGreat.A
