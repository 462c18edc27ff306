/- Functions of the program as plain functions, by program. -/
import Derived.Test.YtdpjofmmokaobaaGreatTypes
import Derived.Test.YtdpjofmmokaobaaGreatLift
import Derived.Test.YtdpjofmmokaobaaGreatFE
set_option maxRecDepth 100000
set_option linter.unusedSectionVars false
set_option linter.unusedVariables false
set_option linter.unusedSimpArgs false
set_option linter.constructorNameAsVariable false
namespace Go.Proofs.YtdpjofmmokaobaaGreat.A
open Go
noncomputable section
variable [Lp]
section
variable (a0:af)(a1:Int)
abbrev GW(a0:af)(a1:Int)(r:Bool):aX×HP:=(.ret (.b r),H0)
def iY:Option Bool:=
 if 0≤a1 then
  some (decide (a1<a0.Many))
 else
  some false
theorem lh(r:Bool)(h:iY a0 a1=some r):call G Ω0 E0 123 [(.a [(I a0.Many),(.l 136 (a0.Grants.map az))]),(I a1)] H0=some (GW a0 a1 r):=
 aF Zx (.or (IF<|.nil) (bf<|bf<|bf<|bf<|bf<|.nil)) fun L=>ai tt<|bZ h (fun h1 h=>ai (g1 (decide_eq_true h1))<|ai (g1 (decide_eq_true h1))<|ai (g1 (decide_eq_true h1))<|ai (rfl:Z0)<|ai (g1 (decide_eq_true h1))<|ai (decide_eq_true h1)<|L h) (fun h1 h=>ai (g1 (decide_eq_false h1))<|ai (g1 (decide_eq_false h1))<|ai (g1 (decide_eq_false h1))<|ai (g1 (decide_eq_false h1))<|ai (decide_eq_false h1)<|L h)
end
section
variable (a0:b9)(a1:af)
abbrev AH(a0:b9)(a1:af)(r:Bool):aX×HP:=(.ret (.b r),H0)
def jv:Option Bool:=
 (iY a1 a0.Who).bind fun (r1:Bool)=>
 if r1=true then
  (iY a1 a0.For).bind fun (r4:Bool)=>
  some (!r4)
 else
  some true
theorem yg(r:Bool)(h:jv a0 a1=some r):call G Ω0 E0 122 [(.a [(I a0.Who),(I a0.For)]),(.e (.a [(I a1.Many),(.l 136 (a1.Grants.map az))]) 0)] H0=some (AH a0 a1 r):=
 aF Zw (bt<|xB fun r1=>.or (p9<|xB fun r4=>kT<|.nil) (bf<|bf<|bf<|bf<|bf<|bt<|.nil)) fun L=>tD<|aP h (lh a1 a0.Who) fun r1 h=>ba h (fun h3 h=>ai (g0 (congrArg not h3))<|ai (g0 (congrArg not h3))<|ai (g0 (congrArg not h3))<|ai (rfl:Z0)<|ai (g0 (congrArg not h3))<|aP h (lh a1 a0.For) fun r4 h=>qx (congrArg not h3)<|L h) (fun h3 h=>ai (g0 (congrArg not h3))<|ai (g0 (congrArg not h3))<|ai (g0 (congrArg not h3))<|ai (g0 (congrArg not h3))<|ai (g0 (congrArg not h3))<|ai (congrArg not h3)<|L h)
end
section
variable (a0:(List b9))(a1:af)
def gx(v0_8:Nat):Option (Nat⊕(Nat⊕(Nat×Bool))):=
 if (v0_8:Int)<(a0.length:Int) then
  (a0[v0_8]?).bind fun (y2:b9)=>
  (jv y2 a1).bind fun (r4:Bool)=>
  if r4=true then
   some (.inr (.inl v0_8))
  else
   if IntKind.i64.wrap ((v0_8:Int)+1)=((v0_8+1:Nat):Int) then
    some (.inl (v0_8+1))
   else none
 else
  some (.inr (.inr (v0_8,decide ((v0_8:Int)<(a0.length:Int)))))
abbrev m6(v:Nat):St:=⟨[(0,(.l 136 (a0.map az))),(1,(.f 122 [(.e (.a [(I a1.Many),(.l 136 (a1.Grants.map az))]) 0)])),(7,(I (a0.length:Int))),(8,(I (v:Int)))],[],H0⟩
abbrev m7(x:(Nat⊕(Nat×Bool))):aQ×St:=match x with | .inl z1=>(.ret,⟨[(4,(I (z1:Int)))],[],H0⟩) | .inr (z1,z2)=>((.ex 0),⟨[(0,(.l 136 (a0.map az))),(1,(.f 122 [(.e (.a [(I a1.Many),(.l 136 (a1.Grants.map az))]) 0)])),(7,(I (a0.length:Int))),(8,(I (z1:Int))),(9,(.b z2))],[],H0⟩)
theorem mK(v0_8:Nat)(o:Nat⊕(Nat⊕(Nat×Bool)))(h:gx a0 a1 v0_8=some o):bG E0 JC (m6 a0 a1) (m7 a0 a1) v0_8 o:=
 bP (.or (bt<|ao (.n v0_8)<|.ex fun (y2:b9)=>ao (.v (.a [(I y2.Who),(I y2.For)]))<|xB fun r4=>oN (ao (.i ((v0_8+1:Nat):Int))<|.nil)) (bf<|.nil)) fun L=>bZ h (fun h1 h=>ai (decide_eq_true h1)<|ai (rI v0_8)<|aZ h fun y2 h3 h=>ai (aD az h3)<|aP h (yg y2 a1) fun r4 h=>ba h (fun h6 h=>ai h6<|L h) (fun h6 h=>ai h6<|aW h fun w7 h=>ai w7<|L h)) (fun h1 h=>ai (decide_eq_false h1)<|L h)
abbrev oF(a0:(List b9))(a1:af)(r:Int):aX×HP:=(.ret (I r),H0)
def iy:Option Int:=
 (lp (fun v=>gx a0 a1 v) 0).bind fun (x1:(Nat⊕(Nat×Bool)))=>match x1 with
 | .inl ya_2=>
  some (ya_2:Int)
 | .inr yb_2=>
  some (-1)
theorem mL(r:Int)(h:iy a0 a1=some r):call G Ω0 E0 154 [(.l 136 (a0.map az)),(.f 122 [(.e (.a [(I a1.Many),(.l 136 (a1.Grants.map az))]) 0)])] H0=some (oF a0 a1 r):=
 aF ZW (ao (.i (a0.length:Int))<|.or (.ex fun (ya_2:Nat)=>ao (.lp .ret ⟨[(4,(I (ya_2:Int)))],[],H0⟩)<|.nil) (.ex fun (yb_2:(Nat×Bool))=>ao (.lp (.ex 0) ⟨[(0,(.l 136 (a0.map az))),(1,(.f 122 [(.e (.a [(I a1.Many),(.l 136 (a1.Grants.map az))]) 0)])),(7,(I (a0.length:Int))),(8,(I (yb_2.1:Int))),(9,(.b yb_2.2))],[],H0⟩)<|.nil)) fun L=>ai (aL az a0)<|cZ h (ek (mK a0 a1) 0) (fun ya_2 h=>L h) (fun yb_2 h=>L h)
abbrev mM(a0:(List b9))(a1:af)(r:Bool):aX×HP:=(.ret (.b r),H0)
def dT:Option Bool:=
 (iy a0 a1).bind fun (r1:Int)=>
 some (decide (0≤r1))
theorem lK(r:Bool)(h:dT a0 a1=some r):call G Ω0 E0 121 [(.l 136 (a0.map az)),(.f 122 [(.e (.a [(I a1.Many),(.l 136 (a1.Grants.map az))]) 0)])] H0=some (mM a0 a1 r):=
 aF Zv (xI fun r1=>.nil) fun L=>aP h (mL a0 a1) fun r1 h=>L h
end
section
variable (a0:af)
abbrev C2(a0:af)(r:Int):aX×HP:=(.ret (I r),H0)
def ji:Option Int:=
 if a0.Many<1 then
  some 3
 else
  if 6<a0.Many then
   some 3
  else
   if 20<(a0.Grants.length:Int) then
    some 2
   else
    (dT a0.Grants a0).bind fun (r4:Bool)=>
    if r4=true then
     some 5
    else
     some 0
theorem oG(r:Int)(h:ji a0=some r):call G Ω0 E0 79 [(.a [(I a0.Many),(.l 136 (a0.Grants.map az))])] H0=some (C2 a0 r):=
 aF G79 (bt<|.or (bf<|bf<|bf<|bt<|bt<|.nil) (Hw<|oN (bt<|ao (.i (a0.Grants.length:Int))<|oN (xB fun r4=>oN (.nil))))) fun L=>tD<|bZ h (fun h1 h=>ai (g0 (decide_eq_true h1))<|ai (g0 (decide_eq_true h1))<|ai (g0 (decide_eq_true h1))<|ai (decide_eq_true h1)<|ai tt<|L h) (fun h1 h=>ai (g0 (decide_eq_false h1))<|ai (g0 (decide_eq_false h1))<|ai (rfl:Z0)<|ai (g0 (decide_eq_false h1))<|ai (decide_eq_false h1)<|bZ h (fun h2 h=>ai (decide_eq_true h2)<|L h) (fun h2 h=>sK (decide_eq_false h2)<|ai (aL az a0.Grants)<|bZ h (fun h3 h=>ai (decide_eq_true h3)<|L h) (fun h3 h=>sK (decide_eq_false h3)<|aP h (lK a0.Grants a0) fun r4 h=>ba h (fun h6 h=>ai h6<|L h) (fun h6 h=>ai h6<|L h))))
end
section
variable (a0:Int)(a1:Program)
abbrev C4(a0:Int)(a1:Program)(r:Bool):aX×HP:=(.ret (.b r),H0)
def nW:Option Bool:=
 (iY a1.af a0).bind fun (r1:Bool)=>
 some (!r1)
theorem zY(r:Bool)(h:nW a0 a1=some r):call G Ω0 E0 131 [(I a0),(.e (.a (aA a1)) 0)] H0=some (C4 a0 a1 r):=
 aF ZD (xB fun r1=>.nil) fun L=>aP h (lh a1.af a0) fun r1 h=>L h
end
section
variable (a0:(List Int))(a1:Program)
def iz(v0_8:Nat):Option (Nat⊕(Nat⊕(Nat×Bool))):=
 if (v0_8:Int)<(a0.length:Int) then
  (a0[v0_8]?).bind fun (y2:Int)=>
  (nW y2 a1).bind fun (r4:Bool)=>
  if r4=true then
   some (.inr (.inl v0_8))
  else
   if IntKind.i64.wrap ((v0_8:Int)+1)=((v0_8+1:Nat):Int) then
    some (.inl (v0_8+1))
   else none
 else
  some (.inr (.inr (v0_8,decide ((v0_8:Int)<(a0.length:Int)))))
abbrev oH(v:Nat):St:=⟨[(0,(.l 3 (a0.map (I)))),(1,(.f 131 [(.e (.a (aA a1)) 0)])),(7,(I (a0.length:Int))),(8,(I (v:Int)))],[],H0⟩
abbrev oI(x:(Nat⊕(Nat×Bool))):aQ×St:=match x with | .inl z1=>(.ret,⟨[(4,(I (z1:Int)))],[],H0⟩) | .inr (z1,z2)=>((.ex 0),⟨[(0,(.l 3 (a0.map (I)))),(1,(.f 131 [(.e (.a (aA a1)) 0)])),(7,(I (a0.length:Int))),(8,(I (z1:Int))),(9,(.b z2))],[],H0⟩)
theorem nX(v0_8:Nat)(o:Nat⊕(Nat⊕(Nat×Bool)))(h:iz a0 a1 v0_8=some o):bG E0 zB (oH a0 a1) (oI a0 a1) v0_8 o:=
 bP (.or (bt<|ao (.n v0_8)<|xI fun y2=>xB fun r4=>oN (ao (.i ((v0_8+1:Nat):Int))<|.nil)) (bf<|.nil)) fun L=>bZ h (fun h1 h=>ai (decide_eq_true h1)<|ai (rI v0_8)<|aZ h fun y2 h3 h=>ai (aD (I) h3)<|aP h (zY y2 a1) fun r4 h=>ba h (fun h6 h=>ai h6<|L h) (fun h6 h=>ai h6<|aW h fun w7 h=>ai w7<|L h)) (fun h1 h=>ai (decide_eq_false h1)<|L h)
abbrev pT(a0:(List Int))(a1:Program)(r:Int):aX×HP:=(.ret (I r),H0)
def jw:Option Int:=
 (lp (fun v=>iz a0 a1 v) 0).bind fun (x1:(Nat⊕(Nat×Bool)))=>match x1 with
 | .inl ya_2=>
  some (ya_2:Int)
 | .inr yb_2=>
  some (-1)
theorem nY(r:Int)(h:jw a0 a1=some r):call G Ω0 E0 98 [(.l 3 (a0.map (I))),(.f 131 [(.e (.a (aA a1)) 0)])] H0=some (pT a0 a1 r):=
 aF JH (ao (.i (a0.length:Int))<|.or (.ex fun (ya_2:Nat)=>ao (.lp .ret ⟨[(4,(I (ya_2:Int)))],[],H0⟩)<|.nil) (.ex fun (yb_2:(Nat×Bool))=>ao (.lp (.ex 0) ⟨[(0,(.l 3 (a0.map (I)))),(1,(.f 131 [(.e (.a (aA a1)) 0)])),(7,(I (a0.length:Int))),(8,(I (yb_2.1:Int))),(9,(.b yb_2.2))],[],H0⟩)<|.nil)) fun L=>ai (aL (I) a0)<|cZ h (ek (nX a0 a1) 0) (fun ya_2 h=>L h) (fun yb_2 h=>L h)
abbrev nZ(a0:(List Int))(a1:Program)(r:Bool):aX×HP:=(.ret (.b r),H0)
def er:Option Bool:=
 (jw a0 a1).bind fun (r1:Int)=>
 some (decide (0≤r1))
theorem mh(r:Bool)(h:er a0 a1=some r):call G Ω0 E0 55 [(.l 3 (a0.map (I))),(.f 131 [(.e (.a (aA a1)) 0)])] H0=some (nZ a0 a1 r):=
 aF JG (xI fun r1=>.nil) fun L=>aP h (nY a0 a1) fun r1 h=>L h
end
section
variable (a0:(List (List Label)))
def cI(v0_3:Int)(v0_11:Nat):Option ((Int×Nat)⊕(Int×Nat×Bool)):=
 if (v0_11:Int)<(a0.length:Int) then
  (a0[v0_11]?).bind fun (y2:(List Label))=>
  if IntKind.i64.wrap (v0_3+(y2.length:Int))=v0_3+(y2.length:Int) then
   if (v0_3+(y2.length:Int))<0 then
    none
   else
    if IntKind.i64.wrap ((v0_11:Int)+1)=((v0_11+1:Nat):Int) then
     some (.inl (v0_3+(y2.length:Int),v0_11+1))
    else none
  else none
 else
  some (.inr (v0_3,v0_11,decide ((v0_11:Int)<(a0.length:Int))))
abbrev rW(v:(Int×Nat)):St:=⟨[(0,(.l 26 (a0.map (bB 49 av)))),(3,(I v.1)),(9,(.l 26 (a0.map (bB 49 av)))),(10,(I (a0.length:Int))),(11,(I (v.2:Int)))],[],H0⟩
abbrev rX(x:(Int×Nat×Bool)):aQ×St:=((.ex 0),⟨[(0,(.l 26 (a0.map (bB 49 av)))),(3,(I x.1)),(9,(.l 26 (a0.map (bB 49 av)))),(10,(I (a0.length:Int))),(11,(I (x.2.1:Int))),(12,(.b x.2.2))],[],H0⟩)
theorem rf(v0_3:Int)(v0_11:Nat)(o:(Int×Nat)⊕(Int×Nat×Bool))(h:cI a0 v0_3 v0_11=some o):bG E0 Jr (rW a0) (rX a0) (v0_3,v0_11) o:=
 bP (.or (bt<|ao (.n v0_11)<|.ex fun (y2:(List Label))=>ao (.v (.l 49 (y2.map av)))<|ao (.i (y2.length:Int))<|ao (.i (v0_3+(y2.length:Int)))<|bf<|ao (.i ((v0_11+1:Nat):Int))<|.nil) (bf<|.nil)) fun L=>bZ h (fun h1 h=>ai (decide_eq_true h1)<|ai (rI v0_11)<|aZ h fun y2 h3 h=>ai (aD (bB 49 av) h3)<|ai (aL av y2)<|aW h fun w4 h=>ai w4<|LM h (fun _ h=>xc h) (fun h5 h=>ai (decide_eq_false h5)<|aW h fun w6 h=>ai w6<|L h)) (fun h1 h=>ai (decide_eq_false h1)<|L h)
def cJ(v1_6:(List Label))(v1_27:Nat):Option (((List Label)×Nat)⊕((List Label)×Nat×Bool)):=
 if (v1_27:Int)<(a0.length:Int) then
  (a0[v1_27]?).bind fun (y5:(List Label))=>
  if v1_6.length+y5.length≤1000000000 then
   if IntKind.i64.wrap ((v1_27:Int)+1)=((v1_27+1:Nat):Int) then
    some (.inl (v1_6++y5,v1_27+1))
   else none
  else none
 else
  some (.inr (v1_6,v1_27,decide ((v1_27:Int)<(a0.length:Int))))
abbrev rY(v:((List Label)×Nat)):St:=⟨[(6,(.o 49 (v.1.map av))),(25,(.l 26 (a0.map (bB 49 av)))),(26,(I (a0.length:Int))),(27,(I (v.2:Int)))],[],H0⟩
abbrev rZ(x:((List Label)×Nat×Bool)):aQ×St:=((.ex 2),⟨[(6,(.o 49 (x.1.map av))),(25,(.l 26 (a0.map (bB 49 av)))),(26,(I (a0.length:Int))),(27,(I (x.2.1:Int))),(28,(.b x.2.2))],[],H0⟩)
theorem rh(v1_6:(List Label))(v1_27:Nat)(o:((List Label)×Nat)⊕((List Label)×Nat×Bool))(h:cJ a0 v1_6 v1_27=some o):bG E0 Js (rY a0) (rZ a0) (v1_6,v1_27) o:=
 bP (.or (bt<|ao (.n v1_27)<|.ex fun (y5:(List Label))=>ao (.v (.l 49 (y5.map av)))<|ao (.l ((v1_6++y5).map av))<|ao (.i ((v1_27+1:Nat):Int))<|.nil) (bf<|.nil)) fun L=>bZ h (fun h4 h=>ai (decide_eq_true h4)<|ai (rI v1_27)<|aZ h fun y5 h6 h=>ai (aD (bB 49 av) h6)<|ai ff<|aW h fun h7 h=>ai ((gw av (n:=2) (fun _=>rfl) y5):(y5.map av).all (fun e=>e.nc==2)=true)<|ai ((kO h7 (by decide)):((v1_6.map av).length+(y5.map av).length)*48≤140737488355328)<|ai ((kP h7):(v1_6.map av).length+(y5.map av).length≤maxLen)<|ai (List.map_append.symm:v1_6.map av++y5.map av=(v1_6++y5).map av)<|aW h fun w8 h=>ai w8<|L h) (fun h4 h=>ai (decide_eq_false h4)<|L h)
abbrev sS(a0:(List (List Label)))(r:(List Label)):aX×HP:=(.ret (.l 49 (r.map av)),H0)
def fm:Option (List Label):=
 (lp (fun v=>cI a0 v.1 v.2) (0,0)).bind fun (x1:(Int×Nat×Bool))=>
 if 0≤x1.1∧x1.1≤1000000 then
  (lp (fun v=>cJ a0 v.1 v.2) (([]:List Label),0)).bind fun (x4:((List Label)×Nat×Bool))=>
  some x4.1
 else none
theorem ri(r:(List Label))(h:fm a0=some r):call G Ω0 E0 132 [(.l 26 (a0.map (bB 49 av)))] H0=some (sS a0 r):=
 aF ZE (ao (.i (a0.length:Int))<|.ex fun (x1:(Int×Nat×Bool))=>ao (.lp (.ex 0) ⟨[(0,(.l 26 (a0.map (bB 49 av)))),(3,(I x1.1)),(9,(.l 26 (a0.map (bB 49 av)))),(10,(I (a0.length:Int))),(11,(I (x1.2.1:Int))),(12,(.b x1.2.2))],[],H0⟩)<|ao (.i (a0.length:Int))<|.ex fun (x4:((List Label)×Nat×Bool))=>ao (.lp (.ex 2) ⟨[(6,(.o 49 (x4.1.map av))),(25,(.l 26 (a0.map (bB 49 av)))),(26,(I (a0.length:Int))),(27,(I (x4.2.1:Int))),(28,(.b x4.2.2))],[],H0⟩)<|.nil) fun L=>ai (aL (bB 49 av) a0)<|aP h (ek (fun v=>rf a0 v.1 v.2) (0,0)) fun x1 h=>aW h fun h3 h=>ai (LN h3:Ω0 159 [.n,(I x1.1)]=some (.o 49 []))<|ai (aL (bB 49 av) a0)<|aP h (ek (fun v=>rh a0 v.1 v.2) (([]:List Label),0)) fun x4 h=>L h
end
section
variable (a0:Int)(a1:af)
abbrev AI(a0:Int)(a1:af)(r:Bool):aX×HP:=(.ret (.b r),H0)
def lL:Option Bool:=
 (iY a1 a0).bind fun (r1:Bool)=>
 some (!r1)
theorem yh(r:Bool)(h:lL a0 a1=some r):call G Ω0 E0 155 [(I a0),(.e (.a [(I a1.Many),(.l 136 (a1.Grants.map az))]) 0)] H0=some (AI a0 a1 r):=
 aF ZX (xB fun r1=>.nil) fun L=>aP h (lh a1 a0) fun r1 h=>L h
end
section
variable (a0:(List Int))(a1:af)
def gy(v0_8:Nat):Option (Nat⊕(Nat⊕(Nat×Bool))):=
 if (v0_8:Int)<(a0.length:Int) then
  (a0[v0_8]?).bind fun (y2:Int)=>
  (lL y2 a1).bind fun (r4:Bool)=>
  if r4=true then
   some (.inr (.inl v0_8))
  else
   if IntKind.i64.wrap ((v0_8:Int)+1)=((v0_8+1:Nat):Int) then
    some (.inl (v0_8+1))
   else none
 else
  some (.inr (.inr (v0_8,decide ((v0_8:Int)<(a0.length:Int)))))
abbrev m8(v:Nat):St:=⟨[(0,(.l 3 (a0.map (I)))),(1,(.f 155 [(.e (.a [(I a1.Many),(.l 136 (a1.Grants.map az))]) 0)])),(7,(I (a0.length:Int))),(8,(I (v:Int)))],[],H0⟩
abbrev m9(x:(Nat⊕(Nat×Bool))):aQ×St:=match x with | .inl z1=>(.ret,⟨[(4,(I (z1:Int)))],[],H0⟩) | .inr (z1,z2)=>((.ex 0),⟨[(0,(.l 3 (a0.map (I)))),(1,(.f 155 [(.e (.a [(I a1.Many),(.l 136 (a1.Grants.map az))]) 0)])),(7,(I (a0.length:Int))),(8,(I (z1:Int))),(9,(.b z2))],[],H0⟩)
theorem mN(v0_8:Nat)(o:Nat⊕(Nat⊕(Nat×Bool)))(h:gy a0 a1 v0_8=some o):bG E0 zB (m8 a0 a1) (m9 a0 a1) v0_8 o:=
 bP (.or (bt<|ao (.n v0_8)<|xI fun y2=>xB fun r4=>oN (ao (.i ((v0_8+1:Nat):Int))<|.nil)) (bf<|.nil)) fun L=>bZ h (fun h1 h=>ai (decide_eq_true h1)<|ai (rI v0_8)<|aZ h fun y2 h3 h=>ai (aD (I) h3)<|aP h (yh y2 a1) fun r4 h=>ba h (fun h6 h=>ai h6<|L h) (fun h6 h=>ai h6<|aW h fun w7 h=>ai w7<|L h)) (fun h1 h=>ai (decide_eq_false h1)<|L h)
abbrev oJ(a0:(List Int))(a1:af)(r:Int):aX×HP:=(.ret (I r),H0)
def iA:Option Int:=
 (lp (fun v=>gy a0 a1 v) 0).bind fun (x1:(Nat⊕(Nat×Bool)))=>match x1 with
 | .inl ya_2=>
  some (ya_2:Int)
 | .inr yb_2=>
  some (-1)
theorem mO(r:Int)(h:iA a0 a1=some r):call G Ω0 E0 98 [(.l 3 (a0.map (I))),(.f 155 [(.e (.a [(I a1.Many),(.l 136 (a1.Grants.map az))]) 0)])] H0=some (oJ a0 a1 r):=
 aF JH (ao (.i (a0.length:Int))<|.or (.ex fun (ya_2:Nat)=>ao (.lp .ret ⟨[(4,(I (ya_2:Int)))],[],H0⟩)<|.nil) (.ex fun (yb_2:(Nat×Bool))=>ao (.lp (.ex 0) ⟨[(0,(.l 3 (a0.map (I)))),(1,(.f 155 [(.e (.a [(I a1.Many),(.l 136 (a1.Grants.map az))]) 0)])),(7,(I (a0.length:Int))),(8,(I (yb_2.1:Int))),(9,(.b yb_2.2))],[],H0⟩)<|.nil)) fun L=>ai (aL (I) a0)<|cZ h (ek (mN a0 a1) 0) (fun ya_2 h=>L h) (fun yb_2 h=>L h)
abbrev mP(a0:(List Int))(a1:af)(r:Bool):aX×HP:=(.ret (.b r),H0)
def dU:Option Bool:=
 (iA a0 a1).bind fun (r1:Int)=>
 some (decide (0≤r1))
theorem lM(r:Bool)(h:dU a0 a1=some r):call G Ω0 E0 55 [(.l 3 (a0.map (I))),(.f 155 [(.e (.a [(I a1.Many),(.l 136 (a1.Grants.map az))]) 0)])] H0=some (mP a0 a1 r):=
 aF JG (xI fun r1=>.nil) fun L=>aP h (mO a0 a1) fun r1 h=>L h
end
section
variable (a1:bw)(a0:af)
def ea(v0_5:Nat):Option (Nat⊕(Unit⊕(Nat×Bool))):=
 if (v0_5:Int)<(a1.Names.length:Int) then
  (a1.Names[v0_5]?).bind fun (y9:Int)=>
  if IntKind.i64.wrap ((v0_5:Int) - 1)=(v0_5:Int) - 1 then
   (cQ ((v0_5:Int) - 1)).bind fun (j12:Nat)=>
   (a1.Names[j12]?).bind fun (y14:Int)=>
   if y9≤y14 then
    some (.inr (.inl ()))
   else
    if IntKind.i64.wrap ((v0_5:Int)+1)=((v0_5+1:Nat):Int) then
     some (.inl (v0_5+1))
    else none
  else none
 else
  some (.inr (.inr (v0_5,decide ((v0_5:Int)<(a1.Names.length:Int)))))
abbrev AJ(v:Nat):St:=⟨[(3,(.p ⟨0,3⟩ 0)),(5,(I (v:Int)))],[(3,[(I a1.Owner),(.l 3 (a1.Names.map (I)))])],H0⟩
abbrev AK(x:(Unit⊕(Nat×Bool))):aQ×St:=match x with | .inl ()=>(.ret,⟨[(4,(I 4))],[],H0⟩) | .inr (z1,z2)=>((.ex 1),⟨[(3,(.p ⟨0,3⟩ 0)),(5,(I (z1:Int))),(26,(.b z2))],[(3,[(I a1.Owner),(.l 3 (a1.Names.map (I)))])],H0⟩)
theorem zZ(v0_5:Nat)(o:Nat⊕(Unit⊕(Nat×Bool)))(h:ea a1 v0_5=some o):bG E0 Jn (AJ a1) (AK a1) v0_5 o:=
 bP (bt<|ao (.i (a1.Names.length:Int))<|.or (dE<|ao (.n v0_5)<|xI fun y9=>bt<|ao (.i ((v0_5:Int) - 1))<|xN fun j12=>xI fun y14=>oN (ao (.i ((v0_5+1:Nat):Int))<|.nil)) (bf<|.nil)) fun L=>ai (rfl:Z0)<|ai (aL (I) a1.Names)<|bZ h (fun h8 h=>ai (decide_eq_true h8)<|ai tt<|ai tt<|ai (rfl:Z0)<|ai tt<|ai tt<|ai (rI v0_5)<|aZ h fun y9 h10 h=>ai (aD (I) h10)<|ai tt<|ai tt<|ai tt<|ai (rfl:Z0)<|ai tt<|ai tt<|aW h fun w11 h=>ai w11<|ai tt<|eS h fun j12 h13 h=>ai h13<|aZ h fun y14 h15 h=>ai (aD (I) h15)<|cR<|bZ h (fun h16 h=>ai (decide_eq_true h16)<|L h) (fun h16 h=>ai (decide_eq_false h16)<|aW h fun w17 h=>ai w17<|L h)) (fun h8 h=>ai (decide_eq_false h8)<|L h)
abbrev C5(a0:af)(a1:bw)(r:Int):aX×HP:=(.ret (I r),H0)
def n4(a1:bw):Option Int:=
 (iY a0 a1.Owner).bind fun (r1:Bool)=>
 if r1=true then
  if 6<(a1.Names.length:Int) then
   some 2
  else
   (dU a1.Names a0).bind fun (r5:Bool)=>
   if r5=true then
    some 5
   else
    (lp (fun v=>ea a1 v) 1).bind fun (x8:(Unit⊕(Nat×Bool)))=>match x8 with
    | .inl ya_9=>
     some 4
    | .inr yb_9=>
     some 0
 else
  some 5
theorem z6(a1:bw)(r:Int)(h:n4 a0 a1=some r):call G Ω0 E0 124 [(.a [(I a0.Many),(.l 136 (a0.Grants.map az))]),(.a [(I a1.Owner),(.l 3 (a1.Names.map (I)))])] H0=some (C5 a0 a1 r):=
 aF Zy (dE<|xB fun r1=>.or (Ai<|ao (.i (a1.Names.length:Int))<|oN (bt<|xB fun r5=>oN (.or (.ex fun (ya_9:Unit)=>ao (.lp .ret ⟨[(4,(I 4))],[],H0⟩)<|.nil) (.ex fun (yb_9:(Nat×Bool))=>ao (.lp (.ex 1) ⟨[(3,(.p ⟨0,3⟩ 0)),(5,(I (yb_9.1:Int))),(26,(.b yb_9.2))],[(3,[(I a1.Owner),(.l 3 (a1.Names.map (I)))])],H0⟩)<|.nil)))) (bt<|.nil)) fun L=>ai tt<|ai tt<|ai (rfl:Z0)<|ai (rfl:Z0)<|aP h (lh a0 a1.Owner) fun r1 h=>ba h (fun h3 h=>sK (congrArg not h3)<|ai (aL (I) a1.Names)<|bZ h (fun h4 h=>ai (decide_eq_true h4)<|L h) (fun h4 h=>ID (decide_eq_false h4)<|aP h (lM a1.Names a0) fun r5 h=>ba h (fun h7 h=>ai h7<|L h) (fun h7 h=>ai h7<|cZ h (ek (zZ a1) 1) (fun ya_9 h=>L h) (fun yb_9 h=>L h)))) (fun h3 h=>ai (congrArg not h3)<|L h)
end
section
variable (a0:af)(a1:Label)
def fh(a1:Label)(v0_16:Nat)(y2:(List bw))(v1_25:Nat):Option (Nat⊕(Int⊕(Nat×Bool))):=
 if (v1_25:Int)<(y2.length:Int) then
  (y2[v1_25]?).bind fun (y6:bw)=>
  (n4 a0 y6).bind fun (r8:Int)=>
  if (r8 !=0)=true then
   some (.inr (.inl r8))
  else
   if IntKind.i64.wrap ((v1_25:Int)+1)=((v1_25+1:Nat):Int) then
    some (.inl (v1_25+1))
   else none
 else
  some (.inr (.inr (v1_25,decide ((v1_25:Int)<(y2.length:Int)))))
abbrev C6(v0_16:Nat)(y2:(List bw))(v:Nat):St:=⟨[(2,(.p ⟨0,2⟩ 0)),(14,(.l 47 (([a1.Read,a1.Write]).map (bB 134 aT)))),(15,(I ((([a1.Read,a1.Write]).length:Nat):Int))),(16,(I (v0_16:Int))),(23,(.l 134 (y2.map aT))),(24,(I (y2.length:Int))),(25,(I (v:Int)))],[(2,[(I a0.Many),(.l 136 (a0.Grants.map az))])],H0⟩
abbrev C7(v0_16:Nat)(y2:(List bw))(x:(Int⊕(Nat×Bool))):aQ×St:=match x with | .inl z1=>(.ret,⟨[(4,(I z1))],[],H0⟩) | .inr (z1,z2)=>((.ex 2),⟨[(2,(.p ⟨0,2⟩ 0)),(14,(.l 47 (([a1.Read,a1.Write]).map (bB 134 aT)))),(15,(I ((([a1.Read,a1.Write]).length:Nat):Int))),(16,(I (v0_16:Int))),(23,(.l 134 (y2.map aT))),(24,(I (y2.length:Int))),(25,(I (z1:Int))),(26,(.b z2))],[(2,[(I a0.Many),(.l 136 (a0.Grants.map az))])],H0⟩)
theorem BQ(v0_16:Nat)(y2:(List bw))(v1_25:Nat)(o:Nat⊕(Int⊕(Nat×Bool)))(h:fh a0 a1 v0_16 y2 v1_25=some o):bG E0 MU (C6 a0 a1 v0_16 y2) (C7 a0 a1 v0_16 y2) v1_25 o:=
 bP (.or (bt<|ao (.n v1_25)<|.ex fun (y6:bw)=>ao (.v (.a [(I y6.Owner),(.l 3 (y6.Names.map (I)))]))<|tE<|xI fun r8=>oN (ao (.i ((v1_25+1:Nat):Int))<|.nil)) (bf<|.nil)) fun L=>bZ h (fun h5 h=>ai (decide_eq_true h5)<|ai (rI v1_25)<|aZ h fun y6 h7 h=>ai (aD aT h7)<|ai tt<|ai ff<|ai (rfl:Z0)<|ai tt<|ai (rfl:Z0)<|ai (rfl:Z0)<|ai (rfl:Z0)<|aP h (z6 a0 y6) fun r8 h=>ba h (fun h10 h=>ai h10<|L h) (fun h10 h=>ai h10<|aW h fun w11 h=>ai w11<|L h)) (fun h5 h=>ai (decide_eq_false h5)<|L h)
def bV(v0_16:Nat):Option (Nat⊕(Unit⊕(Int⊕(Nat×Bool)))):=
 if (v0_16:Int)<((([a1.Read,a1.Write]).length:Nat):Int) then
  (([a1.Read,a1.Write])[v0_16]?).bind fun (y2:(List bw))=>
  if 4<(y2.length:Int) then
   some (.inr (.inl ()))
  else
   (lp (fun v=>fh a0 a1 v0_16 y2 v) 0).bind fun (x5:(Int⊕(Nat×Bool)))=>match x5 with
   | .inl ya_6=>
    some (.inr (.inr (.inl ya_6)))
   | .inr yb_6=>
    if IntKind.i64.wrap ((v0_16:Int)+1)=((v0_16+1:Nat):Int) then
     some (.inl (v0_16+1))
    else none
 else
  some (.inr (.inr (.inr (v0_16,decide ((v0_16:Int)<((([a1.Read,a1.Write]).length:Nat):Int))))))
abbrev C8(v:Nat):St:=⟨[(2,(.p ⟨0,2⟩ 0)),(14,(.l 47 (([a1.Read,a1.Write]).map (bB 134 aT)))),(15,(I ((([a1.Read,a1.Write]).length:Nat):Int))),(16,(I (v:Int)))],[(2,[(I a0.Many),(.l 136 (a0.Grants.map az))])],H0⟩
abbrev C9(x:(Unit⊕(Int⊕(Nat×Bool)))):aQ×St:=match x with | .inl ()=>(.ret,⟨[(4,(I 2))],[],H0⟩) | .inr (.inl z1)=>(.ret,⟨[(4,(I z1))],[],H0⟩) | .inr (.inr (z1,z2))=>((.ex 0),⟨[(2,(.p ⟨0,2⟩ 0)),(14,(.l 47 (([a1.Read,a1.Write]).map (bB 134 aT)))),(15,(I ((([a1.Read,a1.Write]).length:Nat):Int))),(16,(I (z1:Int))),(17,(.b z2))],[(2,[(I a0.Many),(.l 136 (a0.Grants.map az))])],H0⟩)
theorem BR(v0_16:Nat)(o:Nat⊕(Unit⊕(Int⊕(Nat×Bool))))(h:bV a0 a1 v0_16=some o):bG E0 MV (C8 a0 a1) (C9 a0 a1) v0_16 o:=
 bP (.or (bt<|ao (.n v0_16)<|.ex fun (y2:(List bw))=>ao (.v (.l 134 (y2.map aT)))<|ao (.i (y2.length:Int))<|oN (ao (.i (y2.length:Int))<|.or (.ex fun (ya_6:Int)=>ao (.lp .ret ⟨[(4,(I ya_6))],[],H0⟩)<|.nil) (.ex fun (yb_6:(Nat×Bool))=>ao (.lp (.ex 2) ⟨[(2,(.p ⟨0,2⟩ 0)),(14,(.l 47 (([a1.Read,a1.Write]).map (bB 134 aT)))),(15,(I ((([a1.Read,a1.Write]).length:Nat):Int))),(16,(I (v0_16:Int))),(23,(.l 134 (y2.map aT))),(24,(I (y2.length:Int))),(25,(I (yb_6.1:Int))),(26,(.b yb_6.2))],[(2,[(I a0.Many),(.l 136 (a0.Grants.map az))])],H0⟩)<|ao (.i ((v0_16+1:Nat):Int))<|.nil))) (bf<|.nil)) fun L=>bZ h (fun h1 h=>ai (decide_eq_true h1)<|ai (rI v0_16)<|aZ h fun y2 h3 h=>ai (aD (bB 134 aT) h3)<|ai (aL aT y2)<|bZ h (fun h4 h=>ai (decide_eq_true h4)<|L h) (fun h4 h=>ai (decide_eq_false h4)<|ai (aL aT y2)<|cZ h (ek (BQ a0 a1 v0_16 y2) 0) (fun ya_6 h=>L h) (fun yb_6 h=>aW h fun w8 h=>ai w8<|L h))) (fun h1 h=>ai (decide_eq_false h1)<|L h)
abbrev Fw(a0:af)(a1:Label)(r:Int):aX×HP:=(.ret (I r),H0)
def lj:Option Int:=
 (lp (fun v=>bV a0 a1 v) 0).bind fun (x1:(Unit⊕(Int⊕(Nat×Bool))))=>match x1 with
 | .inl ya_2=>
  some 2
 | .inr (.inl yb_2)=>
  some yb_2
 | .inr (.inr yc_2)=>
  some 0
theorem qC(r:Int)(h:lj a0 a1=some r):call G Ω0 E0 80 [(.a [(I a0.Many),(.l 136 (a0.Grants.map az))]),(.a [(.l 134 (a1.Read.map aT)),(.l 134 (a1.Write.map aT))])] H0=some (Fw a0 a1 r):=
 aF G80 (dE<|ao (.l (([a1.Read,a1.Write]).map (bB 134 aT)))<|ao (.i ((([a1.Read,a1.Write]).length:Nat):Int))<|.or (.ex fun (ya_2:Unit)=>ao (.lp .ret ⟨[(4,(I 2))],[],H0⟩)<|.nil) (.or (.ex fun (yb_2:Int)=>ao (.lp .ret ⟨[(4,(I yb_2))],[],H0⟩)<|.nil) (.ex fun (yc_2:(Nat×Bool))=>ao (.lp (.ex 0) ⟨[(2,(.p ⟨0,2⟩ 0)),(14,(.l 47 (([a1.Read,a1.Write]).map (bB 134 aT)))),(15,(I ((([a1.Read,a1.Write]).length:Nat):Int))),(16,(I (yc_2.1:Int))),(17,(.b yc_2.2))],[(2,[(I a0.Many),(.l 136 (a0.Grants.map az))])],H0⟩)<|.nil))) fun L=>ai tt<|ai tt<|ai (rfl:Z0)<|ai (rfl:Z0)<|ai (rfl:[(.l 134 (a1.Read.map aT)),(.l 134 (a1.Write.map aT))]=([a1.Read,a1.Write]).map (bB 134 aT))<|ai (aL (bB 134 aT) ([a1.Read,a1.Write]))<|M8 h (ek (BR a0 a1) 0) (fun ya_2 h=>L h) (fun yb_2 h=>L h) (fun yc_2 h=>L h)
end
section
variable (a0:Var)
abbrev Da(a0:Var)(r:Bool):aX×HP:=(.ret (.b r),H0)
def n5:Option Bool:=
 if a0.Known=true then
  some false
 else
  if IntKind.i64.wrap ((a0.Label.Read.length:Int)+(a0.Label.Write.length:Int))=(a0.Label.Read.length:Int)+(a0.Label.Write.length:Int) then
   some (decide (0<((a0.Label.Read.length:Int)+(a0.Label.Write.length:Int))))
  else none
theorem z7(r:Bool)(h:n5 a0=some r):call G Ω0 E0 134 [(.a (jW a0))] H0=some (Da a0 r):=
 aF ZG (bt<|.or (RY<|.nil) (p9<|ao (.i (a0.Label.Read.length:Int))<|p9<|ao (.i (a0.Label.Write.length:Int))<|bt<|ao (.i ((a0.Label.Read.length:Int)+(a0.Label.Write.length:Int)))<|dE<|.nil)) fun L=>tD<|ba h (fun h1 h=>ai (g1 (congrArg not h1))<|ai (g1 (congrArg not h1))<|ai (g1 (congrArg not h1))<|ai (g1 (congrArg not h1))<|ai (g1 (congrArg not h1))<|ai (g1 (congrArg not h1))<|ai (g1 (congrArg not h1))<|ai (g1 (congrArg not h1))<|ai (g1 (congrArg not h1))<|ai (g1 (congrArg not h1))<|ai (congrArg not h1)<|L h) (fun h1 h=>ai (g1 (congrArg not h1))<|ai (g1 (congrArg not h1))<|ai (g1 (congrArg not h1))<|ai (rfl:Z0)<|ai (g1 (congrArg not h1))<|ai (aL aT a0.Label.Read)<|ai (g1 (congrArg not h1))<|ai (g1 (congrArg not h1))<|ai (g1 (congrArg not h1))<|ai (rfl:Z0)<|ai (g1 (congrArg not h1))<|ai (aL aT a0.Label.Write)<|ai (g1 (congrArg not h1))<|aW h fun w2 h=>ai w2<|Hv (congrArg not h1)<|L h)
end
section
variable (a0:(List Var))
def iB(v0_8:Nat):Option (Nat⊕(Nat⊕(Nat×Bool))):=
 if (v0_8:Int)<(a0.length:Int) then
  (a0[v0_8]?).bind fun (y2:Var)=>
  (n5 y2).bind fun (r4:Bool)=>
  if r4=true then
   some (.inr (.inl v0_8))
  else
   if IntKind.i64.wrap ((v0_8:Int)+1)=((v0_8+1:Nat):Int) then
    some (.inl (v0_8+1))
   else none
 else
  some (.inr (.inr (v0_8,decide ((v0_8:Int)<(a0.length:Int)))))
abbrev oK(v:Nat):St:=⟨[(0,(.l 51 (a0.map bm))),(1,(.f 134 [])),(7,(I (a0.length:Int))),(8,(I (v:Int)))],[],H0⟩
abbrev oL(x:(Nat⊕(Nat×Bool))):aQ×St:=match x with | .inl z1=>(.ret,⟨[(4,(I (z1:Int)))],[],H0⟩) | .inr (z1,z2)=>((.ex 0),⟨[(0,(.l 51 (a0.map bm))),(1,(.f 134 [])),(7,(I (a0.length:Int))),(8,(I (z1:Int))),(9,(.b z2))],[],H0⟩)
theorem n6(v0_8:Nat)(o:Nat⊕(Nat⊕(Nat×Bool)))(h:iB a0 v0_8=some o):bG E0 JE (oK a0) (oL a0) v0_8 o:=
 bP (.or (bt<|ao (.n v0_8)<|.ex fun (y2:Var)=>ao (.v (.a (jW y2)))<|xB fun r4=>oN (ao (.i ((v0_8+1:Nat):Int))<|.nil)) (bf<|.nil)) fun L=>bZ h (fun h1 h=>ai (decide_eq_true h1)<|ai (rI v0_8)<|aZ h fun y2 h3 h=>ai (aD bm h3)<|aP h (z7 y2) fun r4 h=>ba h (fun h6 h=>ai h6<|L h) (fun h6 h=>ai h6<|aW h fun w7 h=>ai w7<|L h)) (fun h1 h=>ai (decide_eq_false h1)<|L h)
abbrev pU(a0:(List Var))(r:Int):aX×HP:=(.ret (I r),H0)
def jx:Option Int:=
 (lp (fun v=>iB a0 v) 0).bind fun (x1:(Nat⊕(Nat×Bool)))=>match x1 with
 | .inl ya_2=>
  some (ya_2:Int)
 | .inr yb_2=>
  some (-1)
theorem n7(r:Int)(h:jx a0=some r):call G Ω0 E0 160 [(.l 51 (a0.map bm)),(.f 134 [])] H0=some (pU a0 r):=
 aF ZZ (ao (.i (a0.length:Int))<|.or (.ex fun (ya_2:Nat)=>ao (.lp .ret ⟨[(4,(I (ya_2:Int)))],[],H0⟩)<|.nil) (.ex fun (yb_2:(Nat×Bool))=>ao (.lp (.ex 0) ⟨[(0,(.l 51 (a0.map bm))),(1,(.f 134 [])),(7,(I (a0.length:Int))),(8,(I (yb_2.1:Int))),(9,(.b yb_2.2))],[],H0⟩)<|.nil)) fun L=>ai (aL bm a0)<|cZ h (ek (n6 a0) 0) (fun ya_2 h=>L h) (fun yb_2 h=>L h)
abbrev n8(a0:(List Var))(r:Bool):aX×HP:=(.ret (.b r),H0)
def et:Option Bool:=
 (jx a0).bind fun (r1:Int)=>
 some (decide (0≤r1))
theorem mi(r:Bool)(h:et a0=some r):call G Ω0 E0 133 [(.l 51 (a0.map bm)),(.f 134 [])] H0=some (n8 a0 r):=
 aF ZF (xI fun r1=>.nil) fun L=>aP h (n7 a0) fun r1 h=>L h
def vd:List dQ:=(gM 38 37)::⟨some 39,.fa 2 1,some ⟨38,false⟩,false⟩::⟨some 40,.ld none 39,some ⟨38,false⟩,false⟩::⟨some 41,.ln false 40,some ⟨38,false⟩,false⟩::⟨some 42,.fa 0 1,some ⟨38,false⟩,false⟩::⟨some 43,.fa 0 42,some ⟨38,false⟩,false⟩::⟨some 44,.ld none 43,some ⟨38,false⟩,false⟩::⟨some 45,.bo .gtr false 41 44,some ⟨38,false⟩,false⟩::(gp 46 (.pk 38 (.c (.b true)) 45))::[]
end
section
variable (a0:Program)
def gU(u2_1:Bool):Option Bool:=
 if u2_1=true then
  some true
 else
  some (decide (a0.af.Many<(a0.Speak.length:Int)))
abbrev BS(u2_1:Bool)(x:Bool):St:=⟨[(1,(.p ⟨0,1⟩ 0)),(46,(.b x))],[(1,(aA a0))],H0⟩
theorem lN(u2_1:Bool)(w:List AV)(x:Bool)(h:gU a0 u2_1=some x):mg G Ω0 E0 [1,46] [1] vd ⟨[(37,(.b u2_1)),(36,(W w 0)),(35,(W w 1)),(34,(W w 2)),(33,(W w 3)),(32,(W w 4)),(31,(W w 5)),(30,(W w 6)),(29,(W w 7)),(28,(W w 8)),(27,(W w 9)),(26,(W w 10)),(25,(W w 11)),(24,(W w 12)),(23,(W w 13)),(22,(W w 14)),(21,(W w 15)),(20,(.b (decide (16<(a0.Vars.length:Int))))),(19,(.b (decide (16<(a0.Vars.length:Int))))),(18,(I (a0.Vars.length:Int))),(17,(.l 51 (a0.Vars.map bm))),(16,(.p ⟨0,1⟩ 5)),(1,(.p ⟨0,1⟩ 0))],[(1,(aA a0))],H0⟩=some (BS a0 u2_1 x):=
 lT (.or (bf<|bf<|bf<|bf<|bf<|bf<|bf<|bt<|.nil) (tE<|ao (.i (a0.Speak.length:Int))<|bt<|bt<|bt<|bt<|bt<|bf<|.nil)) fun L=>ba h (fun h7 h=>ai (g0 h7)<|ai (g0 h7)<|ai (g0 h7)<|ai (g0 h7)<|ai (g0 h7)<|ai (g0 h7)<|ai (g0 h7)<|ai h7<|L h) (fun h7 h=>JR h7<|ai (aL (I) a0.Speak)<|ai (g0 h7)<|ai (g0 h7)<|ai (g0 h7)<|ai (rfl:Z0)<|ai (g0 h7)<|ai h7<|L h)
def BT:List dQ:=(gF 16 5 1)::(gQ 17 16)::(gp 18 (.ln false 17))::(gB 19 .gtr 18 (kI 16))::(gM 20 19)::⟨some 21,.fa 3 1,some ⟨20,false⟩,false⟩::⟨some 22,.ld none 21,some ⟨20,false⟩,false⟩::⟨some 23,.ln false 22,some ⟨20,false⟩,false⟩::⟨some 24,.bo .gtr false 23 (kI 5),some ⟨20,false⟩,false⟩::(gp 25 (.pk 20 (.c (.b true)) 24))::(gM 26 25)::⟨some 27,.fa 4 1,some ⟨26,false⟩,false⟩::⟨some 28,.ld none 27,some ⟨26,false⟩,false⟩::⟨some 29,.ln false 28,some ⟨26,false⟩,false⟩::⟨some 30,.bo .gtr false 29 (kI 5),some ⟨26,false⟩,false⟩::(gp 31 (.pk 26 (.c (.b true)) 30))::(gM 32 31)::⟨some 33,.fa 6 1,some ⟨32,false⟩,false⟩::⟨some 34,.ld none 33,some ⟨32,false⟩,false⟩::⟨some 35,.ln false 34,some ⟨32,false⟩,false⟩::⟨some 36,.bo .gtr false 35 (kI 5),some ⟨32,false⟩,false⟩::(gp 37 (.pk 32 (.c (.b true)) 36))::vd
def my:Option Bool:=
 if 16<(a0.Vars.length:Int) then
  (gU a0 true).bind fun (x5:Bool)=>
  some x5
 else
  if 5<(a0.Ins.length:Int) then
   (gU a0 true).bind fun (x6:Bool)=>
   some x6
  else
   if 5<(a0.Outs.length:Int) then
    (gU a0 true).bind fun (x7:Bool)=>
    some x7
   else
    (gU a0 (decide (5<(a0.Funcs.length:Int)))).bind fun (x7:Bool)=>
    some x7
abbrev BU(x:Bool):St:=⟨[(1,(.p ⟨0,1⟩ 0)),(46,(.b x))],[(1,(aA a0))],H0⟩
theorem AL(x:Bool)(h:my a0=some x):mg G Ω0 E0 [1,46] [1] BT ⟨[(1,(.p ⟨0,1⟩ 0))],[(1,(aA a0))],H0⟩=some (BU a0 x):=
 lT (bt<|ao (.i (a0.Vars.length:Int))<|.or (bf<|bf<|bf<|bf<|bt<|bf<|bf<|bf<|bf<|bt<|bf<|bf<|bf<|bf<|bt<|.jb (some 38) 8<|.ex fun (x5:Bool)=>ao (.jn ⟨[(1,(.p ⟨0,1⟩ 0)),(46,(.b x5))],[(1,(aA a0))],H0⟩)<|.nil) (tE<|ao (.i (a0.Ins.length:Int))<|kT<|.or (bf<|bf<|bf<|bf<|bt<|bf<|bf<|bf<|bf<|bt<|.jb (some 38) 8<|.ex fun (x6:Bool)=>ao (.jn ⟨[(1,(.p ⟨0,1⟩ 0)),(46,(.b x6))],[(1,(aA a0))],H0⟩)<|.nil) (tE<|ao (.i (a0.Outs.length:Int))<|kT<|.or (DY<|.jb (some 38) 8<|.ex fun (x7:Bool)=>ao (.jn ⟨[(1,(.p ⟨0,1⟩ 0)),(46,(.b x7))],[(1,(aA a0))],H0⟩)<|.nil) (tE<|ao (.i (a0.Funcs.length:Int))<|kT<|.jb (some 38) 8<|.ex fun (x7:Bool)=>ao (.jn ⟨[(1,(.p ⟨0,1⟩ 0)),(46,(.b x7))],[(1,(aA a0))],H0⟩)<|.nil)))) fun L=>ai (rfl:Z0)<|ai (aL bm a0.Vars)<|bZ h (fun h4 h=>ai (g0 (decide_eq_true h4))<|ai (g0 (decide_eq_true h4))<|ai (g0 (decide_eq_true h4))<|ai (g0 (decide_eq_true h4))<|ai (decide_eq_true h4)<|ai ht<|ai ht<|ai ht<|ai ht<|ai tt<|ai ht<|ai ht<|ai ht<|ai ht<|ai tt<|aP h (lN a0 true [.sk,.sk,.sk,.sk,(.b true),(.b true),.sk,.sk,.sk,.sk,(.b true),(.b true),.sk,.sk,.sk,.sk]) fun x5 h=>L h) (fun h4 h=>JR (decide_eq_false h4)<|ai (aL av a0.Ins)<|qx (decide_eq_false h4)<|bZ h (fun h5 h=>ai (g0 (decide_eq_true h5))<|ai (g0 (decide_eq_true h5))<|ai (g0 (decide_eq_true h5))<|ai (g0 (decide_eq_true h5))<|ai (decide_eq_true h5)<|ai ht<|ai ht<|ai ht<|ai ht<|ai tt<|aP h (lN a0 true [.sk,.sk,.sk,.sk,(.b true),(.b true),.sk,.sk,.sk,.sk,(.b (decide (5<(a0.Ins.length:Int)))),(.b (decide (5<(a0.Ins.length:Int)))),(.b (decide (5<(a0.Ins.length:Int)))),(I (a0.Ins.length:Int)),(.l 49 (a0.Ins.map av)),(.p ⟨0,1⟩ 3)]) fun x6 h=>L h) (fun h5 h=>JR (decide_eq_false h5)<|ai (aL av a0.Outs)<|qx (decide_eq_false h5)<|bZ h (fun h6 h=>DX (decide_eq_true h6)<|aP h (lN a0 true [.sk,.sk,.sk,.sk,(.b (decide (5<(a0.Outs.length:Int)))),(.b (decide (5<(a0.Outs.length:Int)))),(.b (decide (5<(a0.Outs.length:Int)))),(I (a0.Outs.length:Int)),(.l 49 (a0.Outs.map av)),(.p ⟨0,1⟩ 4),(.b (decide (5<(a0.Ins.length:Int)))),(.b (decide (5<(a0.Ins.length:Int)))),(.b (decide (5<(a0.Ins.length:Int)))),(I (a0.Ins.length:Int)),(.l 49 (a0.Ins.map av)),(.p ⟨0,1⟩ 3)]) fun x7 h=>L h) (fun h6 h=>JR (decide_eq_false h6)<|ai (aL a7 a0.Funcs)<|qx (decide_eq_false h6)<|aP h (lN a0 (decide (5<(a0.Funcs.length:Int))) [(.b (decide (5<(a0.Funcs.length:Int)))),(I (a0.Funcs.length:Int)),(.l 112 (a0.Funcs.map a7)),(.p ⟨0,1⟩ 6),(.b (decide (5<(a0.Outs.length:Int)))),(.b (decide (5<(a0.Outs.length:Int)))),(.b (decide (5<(a0.Outs.length:Int)))),(I (a0.Outs.length:Int)),(.l 49 (a0.Outs.map av)),(.p ⟨0,1⟩ 4),(.b (decide (5<(a0.Ins.length:Int)))),(.b (decide (5<(a0.Ins.length:Int)))),(.b (decide (5<(a0.Ins.length:Int)))),(I (a0.Ins.length:Int)),(.l 49 (a0.Ins.map av)),(.p ⟨0,1⟩ 3)]) fun x7 h=>L h)))
def ll(r10:(List Label))(v0_58:Nat):Option (Nat⊕(Int⊕(Nat×Bool))):=
 if (v0_58:Int)<(r10.length:Int) then
  (r10[v0_58]?).bind fun (y13:Label)=>
  (lj a0.af y13).bind fun (r15:Int)=>
  if (r15 !=0)=true then
   some (.inr (.inl r15))
  else
   if IntKind.i64.wrap ((v0_58:Int)+1)=((v0_58+1:Nat):Int) then
    some (.inl (v0_58+1))
   else none
 else
  some (.inr (.inr (v0_58,decide ((v0_58:Int)<(r10.length:Int)))))
abbrev Db(r10:(List Label))(v:Nat):St:=⟨[(1,(.e (.a (aA a0)) 0)),(56,(.l 49 (r10.map av))),(57,(I (r10.length:Int))),(58,(I (v:Int)))],[],H0⟩
abbrev Dc(r10:(List Label))(x:(Int⊕(Nat×Bool))):aQ×St:=match x with | .inl z1=>(.ret,⟨[(2,(I z1))],[],H0⟩) | .inr (z1,z2)=>((.ex 0),⟨[(1,(.e (.a (aA a0)) 0)),(56,(.l 49 (r10.map av))),(57,(I (r10.length:Int))),(58,(I (z1:Int))),(59,(.b z2))],[],H0⟩)
theorem BV(r10:(List Label))(v0_58:Nat)(o:Nat⊕(Int⊕(Nat×Bool)))(h:ll a0 r10 v0_58=some o):bG E0 MZ (Db a0 r10) (Dc a0 r10) v0_58 o:=
 bP (.or (bt<|ao (.n v0_58)<|.ex fun (y13:Label)=>ao (.v (.a [(.l 134 (y13.Read.map aT)),(.l 134 (y13.Write.map aT))]))<|dF<|xI fun r15=>oN (ao (.i ((v0_58+1:Nat):Int))<|.nil)) (bf<|.nil)) fun L=>bZ h (fun h12 h=>ai (decide_eq_true h12)<|ai (rI v0_58)<|aZ h fun y13 h14 h=>ai (aD av h14)<|Hu<|aP h (qC a0.af y13) fun r15 h=>ba h (fun h17 h=>ai h17<|L h) (fun h17 h=>ai h17<|aW h fun w18 h=>ai w18<|L h)) (fun h12 h=>ai (decide_eq_false h12)<|L h)
def lq(v1_73:Nat):Option (Nat⊕(Int⊕(Nat×Bool))):=
 if (v1_73:Int)<(a0.Vars.length:Int) then
  (a0.Vars[v1_73]?).bind fun (y16:Var)=>
  (lj a0.af y16.Label).bind fun (r18:Int)=>
  if (r18 !=0)=true then
   some (.inr (.inl r18))
  else
   if IntKind.i64.wrap ((v1_73:Int)+1)=((v1_73+1:Nat):Int) then
    some (.inl (v1_73+1))
   else none
 else
  some (.inr (.inr (v1_73,decide ((v1_73:Int)<(a0.Vars.length:Int)))))
abbrev Dd(v:Nat):St:=⟨[(1,(.e (.a (aA a0)) 0)),(71,(.l 51 (a0.Vars.map bm))),(72,(I (a0.Vars.length:Int))),(73,(I (v:Int)))],[],H0⟩
abbrev De(x:(Int⊕(Nat×Bool))):aQ×St:=match x with | .inl z1=>(.ret,⟨[(2,(I z1))],[],H0⟩) | .inr (z1,z2)=>((.ex 2),⟨[(1,(.e (.a (aA a0)) 0)),(71,(.l 51 (a0.Vars.map bm))),(72,(I (a0.Vars.length:Int))),(73,(I (z1:Int))),(74,(.b z2))],[],H0⟩)
theorem BW(v1_73:Nat)(o:Nat⊕(Int⊕(Nat×Bool)))(h:lq a0 v1_73=some o):bG E0 M0 (Dd a0) (De a0) v1_73 o:=
 bP (.or (bt<|ao (.n v1_73)<|.ex fun (y16:Var)=>ao (.v (.a (jW y16)))<|dF<|xI fun r18=>oN (ao (.i ((v1_73+1:Nat):Int))<|.nil)) (bf<|.nil)) fun L=>bZ h (fun h15 h=>ai (decide_eq_true h15)<|ai (rI v1_73)<|aZ h fun y16 h17 h=>ai (aD bm h17)<|Hu<|aP h (qC a0.af y16.Label) fun r18 h=>ba h (fun h20 h=>ai h20<|L h) (fun h20 h=>ai h20<|aW h fun w21 h=>ai w21<|L h)) (fun h15 h=>ai (decide_eq_false h15)<|L h)
abbrev Fx(a0:Program)(r:Int):aX×HP:=(.ret (I r),H0)
def qD:Option Int:=
 (ji a0.af).bind fun (r1:Int)=>
 if (r1 !=0)=true then
  some r1
 else
  (my a0).bind fun (x4:Bool)=>
  if x4=true then
   some 2
  else
   (er a0.Speak a0).bind fun (r7:Bool)=>
   if r7=true then
    some 5
   else
    (fm ([a0.Ins,a0.Outs])).bind fun (r10:(List Label))=>
    (lp (fun v=>ll a0 r10 v) 0).bind fun (x12:(Int⊕(Nat×Bool)))=>match x12 with
    | .inl ya_13=>
     some ya_13
    | .inr yb_13=>
     (lp (fun v=>lq a0 v) 0).bind fun (x15:(Int⊕(Nat×Bool)))=>match x15 with
     | .inl ya_16=>
      some ya_16
     | .inr yb_16=>
      (et a0.Vars).bind fun (r18:Bool)=>
      if r18=true then
       some 1
      else
       some 0
theorem BX(r:Int)(h:qD a0=some r):call G Ω0 E0 93 [(.a (aA a0))] H0=some (Fx a0 r):=
 aF G93 (bt<|xI fun r1=>oN (.jb (some 16) 30<|.ex fun (x4:Bool)=>ao (.jn ⟨[(1,(.p ⟨0,1⟩ 0)),(46,(.b x4))],[(1,(aA a0))],H0⟩)<|oN (xB fun r7=>oN (ao (.l (([a0.Ins,a0.Outs]).map (bB 49 av)))<|.ex fun (r10:(List Label))=>ao (.v (.l 49 (r10.map av)))<|ao (.i (r10.length:Int))<|.or (.ex fun (ya_13:Int)=>ao (.lp .ret ⟨[(2,(I ya_13))],[],H0⟩)<|.nil) (.ex fun (yb_13:(Nat×Bool))=>ao (.lp (.ex 0) ⟨[(1,(.e (.a (aA a0)) 0)),(56,(.l 49 (r10.map av))),(57,(I (r10.length:Int))),(58,(I (yb_13.1:Int))),(59,(.b yb_13.2))],[],H0⟩)<|ao (.i (a0.Vars.length:Int))<|.or (.ex fun (ya_16:Int)=>ao (.lp .ret ⟨[(2,(I ya_16))],[],H0⟩)<|.nil) (.ex fun (yb_16:(Nat×Bool))=>ao (.lp (.ex 2) ⟨[(1,(.e (.a (aA a0)) 0)),(71,(.l 51 (a0.Vars.map bm))),(72,(I (a0.Vars.length:Int))),(73,(I (yb_16.1:Int))),(74,(.b yb_16.2))],[],H0⟩)<|xB fun r18=>oN (.nil))))))) fun L=>tD<|aP h (oG a0.af) fun r1 h=>ba h (fun h3 h=>ai h3<|L h) (fun h3 h=>ai h3<|aP h (AL a0) fun x4 h=>ba h (fun h6 h=>ai h6<|L h) (fun h6 h=>sK h6<|aP h (mh a0.Speak a0) fun r7 h=>ba h (fun h9 h=>ai h9<|L h) (fun h9 h=>ai h9<|ai (rfl:[(.l 49 (a0.Ins.map av)),(.l 49 (a0.Outs.map av))]=([a0.Ins,a0.Outs]).map (bB 49 av))<|aP h (ri ([a0.Ins,a0.Outs])) fun r10 h=>ai (aL av r10)<|cZ h (ek (BV a0 r10) 0) (fun ya_13 h=>L h) (fun yb_13 h=>ai (aL bm a0.Vars)<|cZ h (ek (BW a0) 0) (fun ya_16 h=>L h) (fun yb_16 h=>aP h (mi a0.Vars) fun r18 h=>ba h (fun h20 h=>ai h20<|L h) (fun h20 h=>ai h20<|L h))))))
end
section
variable (dp:Nat)(hp:HP)(k0:Key)
abbrev En(dp:Nat)(hp:HP)(k0:Key)(a0:Stmt)(a1:Int)(c0:Int)(r:(Bool×Int)):aX×HP:=(.ret (.b r.1),ad hp k0 [(I r.2)])
def sB(a0:Stmt)(a1:Int)(c0:Int):Option (Bool×Int):=
 if IntKind.i64.wrap (c0+1)=c0+1 then
  if (c0+1)≤50 then
   some ((decide (a1≤6)),(c0+1))
  else
   some (false,(c0+1))
 else none
theorem AM(hk_k0:k0.dp<dp)(hz:aO dp hp)(a0:Stmt)(a1:Int)(c0:Int)(r:(Bool×Int))(h:sB a0 a1 c0=some r):call G Ω0 ⟨dp,false⟩ 135 [(.a (ah a0)),(I a1),(.p k0 0)] (ad hp k0 [(I c0)])=some (En dp hp k0 a0 a1 c0 r):=
 aF ZH (bf<|ao (.l [(I c0)])<|ao (.i (c0+1))<|bf<|ao (.l [(I c0)])<|bf<|ao (.h (ad hp k0 [(I (c0+1))]))<|bf<|ao (.l [(I (c0+1))])<|.or (dF<|.nil) (BB<|.nil)) fun L=>ai ((by simp [ah,AV.aG,AV.aI,AV.deep,AV.bz,aj hk_k0,Nat.le_of_lt hk_k0]):(((.a (ah a0)):AV).deep dp&&(([(0,(.a (ah a0))),(1,(I a1)),(2,(.p k0 0))]:List (Nat×AV)).all (fun y=>y.2.aG ⟨dp,3⟩)&&([]:List (Nat×List AV)).all (fun y=>AV.aI ⟨dp,3⟩ y.2)))=true)<|ai (Nat.ne_of_lt hk_k0)<|ai (aN hp k0 [(I c0)])<|aW h fun w1 h=>ai w1<|ai ff<|ai (Nat.ne_of_lt hk_k0)<|ai (aN hp k0 [(I c0)])<|ai tt<|ai (Nat.ne_of_lt hk_k0)<|ai (bh hp k0 [(I c0)] [(I (c0+1))])<|ai (Nat.ne_of_lt hk_k0)<|ai (aN hp k0 [(I (c0+1))])<|bZ h (fun h2 h=>qw (decide_eq_true h2)<|L h) (fun h2 h=>qw (decide_eq_false h2)<|L h)
end
section
variable (dp:Nat)(hp:HP)(k0:Key)(a0:(List Stmt))(a1:Int)(c0:Int)
abbrev sT(dp:Nat)(hp:HP)(k0:Key)(a0:(List Stmt))(a1:Int)(c0:Int)(r:(Bool×Int)):aX×HP:=(.ret (.b r.1),ad hp k0 [(I r.2)])
abbrev iK(r:(Bool×Int)):Prop:=call G Ω0 ⟨dp,false⟩ 99 [(.l 88 (a0.map aH)),(I a1),(.f 135 [(.p k0 0)])] (ad hp k0 [(I c0)])=some (sT dp hp k0 a0 a1 c0 r)
end
structure iL where
 f_scope_Walk__scope_few_1:(List Stmt)→Int→Int→Option (Bool×Int)
structure il(R:iL):Prop where
 f_scope_Walk__scope_few_1:∀ (dp:Nat)(hp:HP)(k0:Key)(hk_k0:k0.dp<dp)(hz:aO dp hp)(a0:(List Stmt))(a1:Int)(c0:Int)(r:(Bool×Int)),R.f_scope_Walk__scope_few_1 a0 a1 c0=some r→iK dp hp k0 a0 a1 c0 r
section
variable (R:iL)(a0:(List Stmt))(a1:Int)(dp:Nat)(hp:HP)(k0:Key)(c0:Int)
def eP(v0_11:Nat)(v0_k0_0:Int):Option ((Nat×Int)⊕(Int⊕(Nat×Bool×Int))):=
 if (v0_11:Int)<(a0.length:Int) then
  (a0[v0_11]?).bind fun (y2:Stmt)=>
  (sB y2 a1 v0_k0_0).bind fun (r4:(Bool×Int))=>
  if r4.1=true then
   if IntKind.i64.wrap (a1+1)=a1+1 then
    (R.f_scope_Walk__scope_few_1 y2.Then (a1+1) r4.2).bind fun (r8:(Bool×Int))=>
    if r8.1=true then
     (R.f_scope_Walk__scope_few_1 y2.Else (a1+1) r8.2).bind fun (r11:(Bool×Int))=>
     if r11.1=true then
      if IntKind.i64.wrap ((v0_11:Int)+1)=((v0_11+1:Nat):Int) then
       some (.inl (v0_11+1,r11.2))
      else none
     else
      some (.inr (.inl r11.2))
    else
     some (.inr (.inl r8.2))
   else none
  else
   some (.inr (.inl r4.2))
 else
  some (.inr (.inr (v0_11,decide ((v0_11:Int)<(a0.length:Int)),v0_k0_0)))
abbrev sa(dp:Nat)(hp:HP)(k0:Key)(a0:(List Stmt))(a1:Int)(v:(Nat×Int)):St:=⟨[(1,(I a1)),(2,(.f 135 [(.p k0 0)])),(9,(.l 88 (a0.map aH))),(10,(I (a0.length:Int))),(11,(I (v.1:Int)))],[],ad hp k0 [(I v.2)]⟩
abbrev sb(dp:Nat)(hp:HP)(k0:Key)(a0:(List Stmt))(a1:Int)(x:(Int⊕(Nat×Bool×Int))):aQ×St:=match x with | .inl z1=>(.ret,⟨[(6,(.b false))],[],ad hp k0 [(I z1)]⟩) | .inr (z1,z2,z3)=>((.ex 0),⟨[(1,(I a1)),(2,(.f 135 [(.p k0 0)])),(9,(.l 88 (a0.map aH))),(10,(I (a0.length:Int))),(11,(I (z1:Int))),(12,(.b z2))],[],ad hp k0 [(I z3)]⟩)
theorem rj(hR:il R)(dp:Nat)(hp:HP)(k0:Key)(hk_k0:k0.dp<dp)(hz:aO dp hp)(a0:(List Stmt))(a1:Int)(v0_11:Nat)(v0_k0_0:Int)(o:(Nat×Int)⊕(Int⊕(Nat×Bool×Int)))(h:eP R a0 a1 v0_11 v0_k0_0=some o):bG ⟨dp,false⟩ EM (sa dp hp k0 a0 a1) (sb dp hp k0 a0 a1) (v0_11,v0_k0_0) o:=
 bP (.or (bt<|ao (.n v0_11)<|.ex fun (y2:Stmt)=>ao (.v (.a (ah y2)))<|dF<|.ex fun (r4:(Bool×Int))=>ao (.v (.b r4.1))<|ao (.h (boxes dp [(8,(ah y2))] (ad hp k0 [(I r4.2)])))<|ao (.bx [(8,(ah y2))])<|ao (.h (ad hp k0 [(I r4.2)]))<|.or (p9<|ao (.i (a1+1))<|dE<|.ex fun (r8:(Bool×Int))=>ao (.v (.b r8.1))<|ao (.h (boxes dp [(8,(ah y2))] (ad hp k0 [(I r8.2)])))<|ao (.bx [(8,(ah y2))])<|ao (.h (ad hp k0 [(I r8.2)]))<|kT<|.or (p9<|ao (.i (a1+1))<|dE<|.ex fun (r11:(Bool×Int))=>ao (.v (.b r11.1))<|ao (.h (boxes dp [(8,(ah y2))] (ad hp k0 [(I r11.2)])))<|ao (.bx [(8,(ah y2))])<|ao (.h (ad hp k0 [(I r11.2)]))<|kT<|.or (bf<|ao (.i ((v0_11+1:Nat):Int))<|.nil) (bt<|.nil)) (LX<|.nil)) (LY<|.nil)) (bf<|.nil)) fun L=>bZ h (fun h1 h=>ai (decide_eq_true h1)<|ai (rI v0_11)<|aZ h fun y2 h3 h=>ai (jr aH h3 (lJ _))<|ai ((by simp [ah,AV.aG,AV.aI,AV.deep,AV.bz,aj hk_k0,Nat.le_of_lt hk_k0]):(([(14,(.a (ah y2))),(13,(.e (.a (ah y2)) 0)),(1,(I a1)),(2,(.f 135 [(.p k0 0)])),(9,(.l 88 (a0.map aH))),(10,(I (a0.length:Int))),(11,(I (v0_11:Int)))]:List (Nat×AV)).all (fun y=>y.2.aG ⟨dp,8⟩)&&([]:List (Nat×List AV)).all (fun y=>AV.aI ⟨dp,8⟩ y.2))=true)<|ai ff<|ai (rN dp)<|ai tt<|ai (rN dp)<|ai (rN dp)<|js<|aZ h fun r4 ek5 h=>have ek5:=cO hk_k0 (AM (dp+1) (boxes dp [(8,(ah y2))] (ad hp k0 [(I v0_k0_0)])) k0 (Nat.lt_succ_of_lt hk_k0) (aE (ab hk_k0 (hz))) y2 a1 v0_k0_0 _ ek5);ai ek5<|ai (dC ek5 (by kernel_rfl) (by kernel_rfl))<|ai (dD ek5 (ab hk_k0 (hz)))<|ba h (fun h6 h=>sr (congrArg not h6)<|ai (rN dp)<|sr (congrArg not h6)<|aW h fun w7 h=>ai w7<|CP (congrArg not h6)<|aZ h fun r8 ek9 h=>have ek9:=cO hk_k0 (hR.f_scope_Walk__scope_few_1 (dp+1) (boxes dp [(8,(ah y2))] (ad hp k0 [(I r4.2)])) k0 (Nat.lt_succ_of_lt hk_k0) (aE (ab hk_k0 (hz))) y2.Then (a1+1) r4.2 _ ek9);ai ek9<|ai (dC ek9 (by kernel_rfl) (by kernel_rfl))<|ai (dD ek9 (ab hk_k0 (hz)))<|qx (congrArg not h6)<|ba h (fun h10 h=>sr (congrArg not h10)<|ai (rN dp)<|sr (congrArg not h10)<|ai w7<|CP (congrArg not h10)<|aZ h fun r11 ek12 h=>have ek12:=cO hk_k0 (hR.f_scope_Walk__scope_few_1 (dp+1) (boxes dp [(8,(ah y2))] (ad hp k0 [(I r8.2)])) k0 (Nat.lt_succ_of_lt hk_k0) (aE (ab hk_k0 (hz))) y2.Else (a1+1) r8.2 _ ek12);ai ek12<|ai (dC ek12 (by kernel_rfl) (by kernel_rfl))<|ai (dD ek12 (ab hk_k0 (hz)))<|qx (congrArg not h10)<|ba h (fun h13 h=>ai (congrArg not h13)<|aW h fun w14 h=>ai w14<|L h) (fun h13 h=>ai (congrArg not h13)<|L h)) (fun h10 h=>LR (congrArg not h10)<|L h)) (fun h6 h=>LS (congrArg not h6)<|L h)) (fun h1 h=>ai (decide_eq_false h1)<|L h)
def eY:Option (Bool×Int):=
 (lp (fun v=>eP R a0 a1 v.1 v.2) (0,c0)).bind fun (x1:(Int⊕(Nat×Bool×Int)))=>match x1 with
 | .inl ya_2=>
  some (false,ya_2)
 | .inr yb_2=>
  some (true,yb_2.2.2)
theorem qQ(hR:il R)(dp:Nat)(hp:HP)(k0:Key)(hk_k0:k0.dp<dp)(hz:aO dp hp)(a0:(List Stmt))(a1:Int)(c0:Int)(r:(Bool×Int))(h:eY R a0 a1 c0=some r):iK dp hp k0 a0 a1 c0 r:=
 aF RD (ao (.i (a0.length:Int))<|.or (.ex fun (ya_2:Int)=>ao (.lp .ret ⟨[(6,(.b false))],[],ad hp k0 [(I ya_2)]⟩)<|.nil) (.ex fun (yb_2:(Nat×Bool×Int))=>ao (.lp (.ex 0) ⟨[(1,(I a1)),(2,(.f 135 [(.p k0 0)])),(9,(.l 88 (a0.map aH))),(10,(I (a0.length:Int))),(11,(I (yb_2.1:Int))),(12,(.b yb_2.2.1))],[],ad hp k0 [(I yb_2.2.2)]⟩)<|.nil)) fun L=>ai (aL aH a0)<|cZ h (ek (fun v=>rj R hR dp hp k0 hk_k0 hz a0 a1 v.1 v.2) (0,c0)) (fun ya_2 h=>L h) (fun yb_2 h=>L h)
def dc:Nat→iL
 | 0=>⟨fun z0 z1 z2=>none⟩
 | n+1=>⟨eY (dc n)⟩
theorem lX:∀ n,il (dc n)
 | 0=>⟨fun _ _ _ _ _ _ _ _ r h=>(by cases h)⟩
 | n+1=>⟨fun dp hp k0 hk_k0 hz a0 a1 c0 r h=>qQ _ (lX n) dp hp k0 hk_k0 hz a0 a1 c0 r h⟩
def fo:Option (Bool×Int):=ev fun n=>(dc n).f_scope_Walk__scope_few_1 a0 a1 c0
theorem lr(hk_k0:k0.dp<dp)(hz:aO dp hp)(a0:(List Stmt))(a1:Int)(c0:Int)(r:(Bool×Int))(h:fo a0 a1 c0=some r):iK dp hp k0 a0 a1 c0 r:=by
 obtain ⟨n,hn⟩:=q8 h
 exact (lX n).f_scope_Walk__scope_few_1 dp hp k0 hk_k0 hz a0 a1 c0 r hn
end
section
variable (a0:Program)
def pC(v0_11:Nat)(v0_3_0:Int):Option ((Nat×Int)⊕(Unit⊕(Nat×Bool×Int))):=
 if (v0_11:Int)<(a0.Funcs.length:Int) then
  (a0.Funcs[v0_11]?).bind fun (y2:Func)=>
  (fo y2.Body 1 v0_3_0).bind fun (r4:(Bool×Int))=>
  if r4.1=true then
   if IntKind.i64.wrap ((v0_11:Int)+1)=((v0_11+1:Nat):Int) then
    some (.inl (v0_11+1,r4.2))
   else none
  else
   some (.inr (.inl ()))
 else
  some (.inr (.inr (v0_11,decide ((v0_11:Int)<(a0.Funcs.length:Int)),v0_3_0)))
abbrev Eo(v:(Nat×Int)):St:=⟨[(1,(.p ⟨0,1⟩ 0)),(4,(.f 135 [(.p ⟨0,3⟩ 0)])),(9,(.l 112 (a0.Funcs.map a7))),(10,(I (a0.Funcs.length:Int))),(11,(I (v.1:Int)))],[(1,(aA a0)),(3,[(I v.2)])],H0⟩
abbrev Ep(x:(Unit⊕(Nat×Bool×Int))):aQ×St:=match x with | .inl ()=>(.ret,⟨[(2,(.b false))],[],H0⟩) | .inr (z1,z2,z3)=>((.ex 0),⟨[(1,(.p ⟨0,1⟩ 0)),(4,(.f 135 [(.p ⟨0,3⟩ 0)])),(9,(.l 112 (a0.Funcs.map a7))),(10,(I (a0.Funcs.length:Int))),(11,(I (z1:Int))),(12,(.b z2))],[(1,(aA a0)),(3,[(I z3)])],H0⟩)
theorem Df(v0_11:Nat)(v0_3_0:Int)(o:(Nat×Int)⊕(Unit⊕(Nat×Bool×Int)))(h:pC a0 v0_11 v0_3_0=some o):bG E0 M1 (Eo a0) (Ep a0) (v0_11,v0_3_0) o:=
 bP (.or (bt<|ao (.n v0_11)<|.ex fun (y2:Func)=>ao (.v (.a (ct y2)))<|dF<|.ex fun (r4:(Bool×Int))=>ao (.v (.b r4.1))<|ao (.h (boxes 0 [(1,(aA a0)),(3,[(I r4.2)]),(6,(ct y2))] H0))<|ao (.bx [(1,(aA a0)),(3,[(I r4.2)]),(6,(ct y2))])<|ao (.h (H0))<|.or (bf<|ao (.i ((v0_11+1:Nat):Int))<|.nil) (bt<|.nil)) (bf<|.nil)) fun L=>bZ h (fun h1 h=>ai (decide_eq_true h1)<|ai (rI v0_11)<|aZ h fun y2 h3 h=>ai (aD a7 h3)<|ai tt<|ai ff<|ai (rfl:Z0)<|ai tt<|ai (rfl:Z0)<|ai (rfl:Z0)<|ai ff<|ai tt<|aZ h fun r4 ek5 h=>have ek5:call G Ω0 ⟨0+1,false⟩ 99 [(.l 88 (y2.Body.map aH)),(I 1),(.f 135 [(.p ⟨0,3⟩ 0)])] (boxes 0 [(1,(aA a0)),(3,[(I v0_3_0)]),(6,(ct y2))] H0)=some (.ret (.b r4.1),boxes 0 [(1,(aA a0)),(3,[(I r4.2)]),(6,(ct y2))] H0):=cT (cq (bx1:=[(1,(aA a0)),(3,[(I v0_3_0)]),(6,(ct y2))]) (by kernel_rfl) (by kernel_rfl)) (cq (bx1:=[(1,(aA a0)),(3,[(I r4.2)]),(6,(ct y2))]) (by kernel_rfl) (by kernel_rfl)) (lr (0+1) (boxes 0 [(1,(aA a0)),(3,[(I v0_3_0)]),(6,(ct y2))] H0) ⟨0,3⟩ (Nat.lt_succ_self 0) (aE (e8 0)) y2.Body 1 v0_3_0 _ ek5);ai ek5<|ai (dC ek5 (by kernel_rfl) (by kernel_rfl))<|ai (dD ek5 (e8 0))<|ba h (fun h6 h=>ai (congrArg not h6)<|aW h fun w7 h=>ai w7<|L h) (fun h6 h=>ai (congrArg not h6)<|L h)) (fun h1 h=>ai (decide_eq_false h1)<|L h)
abbrev GX(a0:Program)(r:Bool):aX×HP:=(.ret (.b r),H0)
def rF:Option Bool:=
 (lp (fun v=>pC a0 v.1 v.2) (0,0)).bind fun (x1:(Unit⊕(Nat×Bool×Int)))=>match x1 with
 | .inl ya_2=>
  some false
 | .inr yb_2=>
  (fo a0.Main 1 yb_2.2.2).bind fun (r4:(Bool×Int))=>
  some r4.1
theorem Dg(r:Bool)(h:rF a0=some r):call G Ω0 E0 94 [(.a (aA a0))] H0=some (GX a0 r):=
 aF G94 (dF<|ao (.i (a0.Funcs.length:Int))<|.or (.ex fun (ya_2:Unit)=>ao (.lp .ret ⟨[(2,(.b false))],[],H0⟩)<|.nil) (.ex fun (yb_2:(Nat×Bool×Int))=>ao (.lp (.ex 0) ⟨[(1,(.p ⟨0,1⟩ 0)),(4,(.f 135 [(.p ⟨0,3⟩ 0)])),(9,(.l 112 (a0.Funcs.map a7))),(10,(I (a0.Funcs.length:Int))),(11,(I (yb_2.1:Int))),(12,(.b yb_2.2.1))],[(1,(aA a0)),(3,[(I yb_2.2.2)])],H0⟩)<|bt<|.ex fun (r4:(Bool×Int))=>ao (.v (.b r4.1))<|ao (.h (boxes 0 [(1,(aA a0)),(3,[(I r4.2)])] H0))<|ao (.bx [(1,(aA a0)),(3,[(I r4.2)])])<|ao (.h (H0))<|.nil)) fun L=>ai tt<|ai tt<|ai ff<|ai (rfl:Z0)<|ai tt<|ai (rfl:Z0)<|ai (rfl:Z0)<|ai (aL a7 a0.Funcs)<|cZ h (ek (fun v=>Df a0 v.1 v.2) (0,0)) (fun ya_2 h=>L h) (fun yb_2 h=>ai (rfl:Z0)<|ai ff<|ai tt<|aZ h fun r4 ek5 h=>have ek5:call G Ω0 ⟨0+1,false⟩ 99 [(.l 88 (a0.Main.map aH)),(I 1),(.f 135 [(.p ⟨0,3⟩ 0)])] (boxes 0 [(1,(aA a0)),(3,[(I yb_2.2.2)])] H0)=some (.ret (.b r4.1),boxes 0 [(1,(aA a0)),(3,[(I r4.2)])] H0):=cT (cq (bx1:=[(1,(aA a0)),(3,[(I yb_2.2.2)])]) (by kernel_rfl) (by kernel_rfl)) (cq (bx1:=[(1,(aA a0)),(3,[(I r4.2)])]) (by kernel_rfl) (by kernel_rfl)) (lr (0+1) (boxes 0 [(1,(aA a0)),(3,[(I yb_2.2.2)])] H0) ⟨0,3⟩ (Nat.lt_succ_self 0) (aE (e8 0)) a0.Main 1 yb_2.2.2 _ ek5);ai ek5<|ai (dC ek5 (by kernel_rfl) (by kernel_rfl))<|ai (dD ek5 (e8 0))<|L h)
end
section
variable (a0:(List Int))(a1:Int)
def iM(v0_8:Nat):Option (Nat⊕(Nat⊕(Nat×Bool))):=
 if (v0_8:Int)<(a0.length:Int) then
  (a0[v0_8]?).bind fun (y2:Int)=>
  if (a1==y2)=true then
   some (.inr (.inl v0_8))
  else
   if IntKind.i64.wrap ((v0_8:Int)+1)=((v0_8+1:Nat):Int) then
    some (.inl (v0_8+1))
   else none
 else
  some (.inr (.inr (v0_8,decide ((v0_8:Int)<(a0.length:Int)))))
abbrev xf(v:Nat):St:=⟨[(0,(.l 3 (a0.map (I)))),(1,(I a1)),(7,(I (a0.length:Int))),(8,(I (v:Int)))],[],H0⟩
abbrev xg(x:(Nat⊕(Nat×Bool))):aQ×St:=match x with | .inl z1=>(.ret,⟨[(4,(I (z1:Int)))],[],H0⟩) | .inr (z1,z2)=>((.ex 0),⟨[(0,(.l 3 (a0.map (I)))),(1,(I a1)),(7,(I (a0.length:Int))),(8,(I (z1:Int))),(9,(.b z2))],[],H0⟩)
theorem wg(v0_8:Nat)(o:Nat⊕(Nat⊕(Nat×Bool)))(h:iM a0 a1 v0_8=some o):bG E0 JF (xf a0 a1) (xg a0 a1) v0_8 o:=
 bP (.or (bt<|ao (.n v0_8)<|xI fun y2=>oN (ao (.i ((v0_8+1:Nat):Int))<|.nil)) (bf<|.nil)) fun L=>bZ h (fun h1 h=>ai (decide_eq_true h1)<|ai (rI v0_8)<|aZ h fun y2 h3 h=>ai (aD (I) h3)<|ba h (fun h4 h=>ai h4<|L h) (fun h4 h=>ai h4<|aW h fun w5 h=>ai w5<|L h)) (fun h1 h=>ai (decide_eq_false h1)<|L h)
abbrev yE(a0:(List Int))(a1:Int)(r:Int):aX×HP:=(.ret (I r),H0)
def na:Option Int:=
 (lp (fun v=>iM a0 a1 v) 0).bind fun (x1:(Nat⊕(Nat×Bool)))=>match x1 with
 | .inl ya_2=>
  some (ya_2:Int)
 | .inr yb_2=>
  some (-1)
theorem wh(r:Int)(h:na a0 a1=some r):call G Ω0 E0 161 [(.l 3 (a0.map (I))),(I a1)] H0=some (yE a0 a1 r):=
 aF Z1 (ao (.i (a0.length:Int))<|.or (.ex fun (ya_2:Nat)=>ao (.lp .ret ⟨[(4,(I (ya_2:Int)))],[],H0⟩)<|.nil) (.ex fun (yb_2:(Nat×Bool))=>ao (.lp (.ex 0) ⟨[(0,(.l 3 (a0.map (I)))),(1,(I a1)),(7,(I (a0.length:Int))),(8,(I (yb_2.1:Int))),(9,(.b yb_2.2))],[],H0⟩)<|.nil)) fun L=>ai (aL (I) a0)<|cZ h (ek (wg a0 a1) 0) (fun ya_2 h=>L h) (fun yb_2 h=>L h)
abbrev wi(a0:(List Int))(a1:Int)(r:Bool):aX×HP:=(.ret (.b r),H0)
def gX:Option Bool:=
 (na a0 a1).bind fun (r1:Int)=>
 some (decide (0≤r1))
theorem tN(r:Bool)(h:gX a0 a1=some r):call G Ω0 E0 136 [(.l 3 (a0.map (I))),(I a1)] H0=some (wi a0 a1 r):=
 aF ZI (xI fun r1=>.nil) fun L=>aP h (wh a0 a1) fun r1 h=>L h
end
section
variable (a0:Int)(dp:Nat)(hp:HP)(k0:Key)(c0:Checker)
abbrev Er(a0:Int)(r:(Bool×Bool×Bool)):aX×HP:=(.ret (.tp [(.b r.1),(.b r.2.1),(.b r.2.2)]),H0)
def pD:Option (Bool×Bool×Bool):=
 if (a0 !=4)=true then
  if 2≤a0 then
   if (a0 !=2)=true then
    some ((decide (a0<7)),(decide (a0≤4)),(a0 !=3))
   else
    some ((decide (a0<7)),(decide (a0≤4)),false)
  else
   if (a0 !=2)=true then
    some ((decide (a0<7)),false,(a0 !=3))
   else
    some ((decide (a0<7)),false,false)
 else
  if 2≤a0 then
   if (a0 !=2)=true then
    some (false,(decide (a0≤4)),(a0 !=3))
   else
    some (false,(decide (a0≤4)),false)
  else
   if (a0 !=2)=true then
    some (false,false,(a0 !=3))
   else
    some (false,false,false)
theorem AN(r:(Bool×Bool×Bool))(h:pD a0=some r):call G Ω0 E0 162 [(I a0)] H0=some (Er a0 r):=
 aF Z2 (.or (dF<|.or (dF<|.or (dF<|.nil) (BB<|.nil)) (BB<|.or (dF<|.nil) (BB<|.nil))) (BB<|.or (dF<|.or (dF<|.nil) (BB<|.nil)) (BB<|.or (dF<|.nil) (BB<|.nil)))) fun L=>ba h (fun h1 h=>qw h1<|bZ h (fun h2 h=>qw (decide_eq_true h2)<|ba h (fun h3 h=>qw h3<|L h) (fun h3 h=>qw h3<|L h)) (fun h2 h=>qw (decide_eq_false h2)<|ba h (fun h3 h=>qw h3<|L h) (fun h3 h=>qw h3<|L h))) (fun h1 h=>qw h1<|bZ h (fun h2 h=>qw (decide_eq_true h2)<|ba h (fun h3 h=>qw h3<|L h) (fun h3 h=>qw h3<|L h)) (fun h2 h=>qw (decide_eq_false h2)<|ba h (fun h3 h=>qw h3<|L h) (fun h3 h=>qw h3<|L h)))
abbrev vE(dp:Nat)(hp:HP)(k0:Key)(c0:Checker)(a0:Int)(r:Int):aX×HP:=(.ret (I r),ad hp k0 (aq c0))
def gk(a0:Int):Option Int:=
 if (a0==2)=true then
  some c0.funcs
 else
  if (a0==3)=true then
   some (c0.p.Ins.length:Int)
  else
   some (c0.p.Outs.length:Int)
theorem sU(hk_k0:k0.dp<dp)(hz:aO dp hp)(c0:Checker)(a0:Int)(r:Int)(h:gk c0 a0=some r):call G Ω0 ⟨dp,true⟩ 163 [(.p k0 0),(I a0)] (ad hp k0 (aq c0))=some (vE dp hp k0 c0 a0 r):=
 aF Z3 (.or (kT<|ao (.l (aq c0))<|.nil) (bf<|.or (kT<|ao (.l (aq c0))<|ao (.i (c0.p.Ins.length:Int))<|.nil) (bf<|bf<|ao (.l (aq c0))<|ao (.i (c0.p.Outs.length:Int))<|.nil))) fun L=>ba h (fun h1 h=>ai h1<|ai (Nat.ne_of_lt hk_k0)<|ai (aN hp k0 (aq c0))<|L h) (fun h1 h=>ai h1<|ba h (fun h2 h=>ai h2<|ai (Nat.ne_of_lt hk_k0)<|ai (aN hp k0 (aq c0))<|ai (aL av c0.p.Ins)<|L h) (fun h2 h=>ai h2<|ai (Nat.ne_of_lt hk_k0)<|ai (aN hp k0 (aq c0))<|ai (aL av c0.p.Outs)<|L h))
def ou:List dQ:=(gA 10 47)::[]
end
section
variable (c0:Checker)(a0:Stmt)(dp:Nat)(hp:HP)(k0:Key)
def eD(c0:Checker)(a0:Stmt)(r3:(Bool×Bool×Bool))(u2_1:Bool):Option Bool:=
 some u2_1
abbrev uA(c0:Checker)(a0:Stmt)(r3:(Bool×Bool×Bool))(u2_1:Bool)(x:Bool):St:=⟨[(0,(.p k0 0)),(3,(.p ⟨dp,3⟩ 0)),(5,(I a0.Kind)),(6,(.b r3.1)),(7,(.b r3.2.1)),(8,(.b r3.2.2)),(9,(.b (decide (7≤a0.Kind)))),(10,(.b x))],[(3,(ah a0))],ad hp k0 (aq c0)⟩
theorem jy(hk_k0:k0.dp<dp)(hz:aO dp hp)(c0:Checker)(a0:Stmt)(r3:(Bool×Bool×Bool))(u2_1:Bool)(w:List AV)(x:Bool)(h:eD c0 a0 r3 u2_1=some x):mg G Ω0 ⟨dp,true⟩ [0,3,5,6,7,8,9,10] [0,3] ou ⟨[(47,(.b u2_1)),(46,(W w 0)),(45,(W w 1)),(44,(W w 2)),(43,(W w 3)),(42,(W w 4)),(41,(W w 5)),(40,(W w 6)),(39,(W w 7)),(38,(W w 8)),(37,(W w 9)),(36,(W w 10)),(35,(.b (a0.Expr.Kind==0))),(34,(.b (a0.Expr.Kind==0))),(33,(I a0.Expr.Kind)),(32,(.p ⟨dp,3⟩ 3)),(31,(.p ⟨dp,3⟩ 3)),(0,(.p k0 0)),(3,(.p ⟨dp,3⟩ 0)),(5,(I a0.Kind)),(6,(.b r3.1)),(7,(.b r3.2.1)),(8,(.b r3.2.2)),(9,(.b (decide (7≤a0.Kind))))],[(3,(ah a0))],ad hp k0 (aq c0)⟩=some (uA dp hp k0 c0 a0 r3 u2_1 x):=
 lT (.nil) fun L=>L h
def uB:List dQ:=(gF 31 3 3)::(gF 32 0 31)::(gQ 33 32)::(gB 34 .eql 33 (kI 0))::(gM 35 34)::⟨some 36,.fa 3 3,some ⟨35,true⟩,false⟩::⟨some 37,.fa 1 36,some ⟨35,true⟩,false⟩::⟨some 38,.ld none 37,some ⟨35,true⟩,false⟩::⟨some 39,.bo .eql false 38 (kI 0),some ⟨35,true⟩,false⟩::(gp 40 (.pk 35 39 (.c (.b false))))::(gM 41 40)::⟨some 42,.fa 3 3,some ⟨41,true⟩,false⟩::⟨some 43,.fa 2 42,some ⟨41,true⟩,false⟩::⟨some 44,.ld none 43,some ⟨41,true⟩,false⟩::⟨some 45,.ln false 44,some ⟨41,true⟩,false⟩::⟨some 46,.bo .eql false 45 (kI 0),some ⟨41,true⟩,false⟩::(gp 47 (.pk 41 46 (.c (.b false))))::ou
def fN(r3:(Bool×Bool×Bool)):Option Bool:=
 if (a0.Expr.Kind==0)=true then
  if (a0.Expr.N==0)=true then
   (eD c0 a0 r3 ((a0.Expr.Args.length:Int)==0)).bind fun (x7:Bool)=>
   some x7
  else
   (eD c0 a0 r3 false).bind fun (x7:Bool)=>
   some x7
 else
  (eD c0 a0 r3 false).bind fun (x6:Bool)=>
  some x6
abbrev uC(c0:Checker)(a0:Stmt)(r3:(Bool×Bool×Bool))(x:Bool):St:=⟨[(0,(.p k0 0)),(3,(.p ⟨dp,3⟩ 0)),(5,(I a0.Kind)),(6,(.b r3.1)),(7,(.b r3.2.1)),(8,(.b r3.2.2)),(9,(.b (decide (7≤a0.Kind)))),(10,(.b x))],[(3,(ah a0))],ad hp k0 (aq c0)⟩
theorem tO(hk_k0:k0.dp<dp)(hz:aO dp hp)(c0:Checker)(a0:Stmt)(r3:(Bool×Bool×Bool))(x:Bool)(h:fN c0 a0 r3=some x):mg G Ω0 ⟨dp,true⟩ [0,3,5,6,7,8,9,10] [0,3] uB ⟨[(0,(.p k0 0)),(3,(.p ⟨dp,3⟩ 0)),(5,(I a0.Kind)),(6,(.b r3.1)),(7,(.b r3.2.1)),(8,(.b r3.2.2)),(9,(.b (decide (7≤a0.Kind))))],[(3,(ah a0))],ad hp k0 (aq c0)⟩=some (uC dp hp k0 c0 a0 r3 x):=
 lT (bt<|.or (IF<|.or (p9<|ao (.i (a0.Expr.Args.length:Int))<|dE<|.jb (some 10) 0<|.ex fun (x7:Bool)=>ao (.jn ⟨[(0,(.p k0 0)),(3,(.p ⟨dp,3⟩ 0)),(5,(I a0.Kind)),(6,(.b r3.1)),(7,(.b r3.2.1)),(8,(.b r3.2.2)),(9,(.b (decide (7≤a0.Kind)))),(10,(.b x7))],[(3,(ah a0))],ad hp k0 (aq c0)⟩)<|.nil) (IG<|.jb (some 10) 0<|.ex fun (x7:Bool)=>ao (.jn ⟨[(0,(.p k0 0)),(3,(.p ⟨dp,3⟩ 0)),(5,(I a0.Kind)),(6,(.b r3.1)),(7,(.b r3.2.1)),(8,(.b r3.2.2)),(9,(.b (decide (7≤a0.Kind)))),(10,(.b x7))],[(3,(ah a0))],ad hp k0 (aq c0)⟩)<|.nil)) (RY<|.jb (some 10) 0<|.ex fun (x6:Bool)=>ao (.jn ⟨[(0,(.p k0 0)),(3,(.p ⟨dp,3⟩ 0)),(5,(I a0.Kind)),(6,(.b r3.1)),(7,(.b r3.2.1)),(8,(.b r3.2.2)),(9,(.b (decide (7≤a0.Kind)))),(10,(.b x6))],[(3,(ah a0))],ad hp k0 (aq c0)⟩)<|.nil)) fun L=>ai (rN dp)<|ba h (fun h5 h=>Ht h5<|ai (rN dp)<|Hv h5<|ba h (fun h6 h=>Ht h6<|ai (rN dp)<|ai (g1 h6)<|ai (aL aR a0.Expr.Args)<|Hv h6<|aP h (jy dp hp k0 hk_k0 hz c0 a0 r3 ((a0.Expr.Args.length:Int)==0) [(.b ((a0.Expr.Args.length:Int)==0)),(I (a0.Expr.Args.length:Int)),(.l 86 (a0.Expr.Args.map aR)),(.p ⟨dp,3⟩ 5),(.p ⟨dp,3⟩ 3),(.b (a0.Expr.N==0)),(.b (a0.Expr.N==0)),(.b (a0.Expr.N==0)),(I a0.Expr.N),(.p ⟨dp,3⟩ 4),(.p ⟨dp,3⟩ 3)]) fun x7 h=>L h) (fun h6 h=>LU h6<|aP h (jy dp hp k0 hk_k0 hz c0 a0 r3 false [.sk,.sk,.sk,.sk,.sk,(.b (a0.Expr.N==0)),(.b (a0.Expr.N==0)),(.b (a0.Expr.N==0)),(I a0.Expr.N),(.p ⟨dp,3⟩ 4),(.p ⟨dp,3⟩ 3)]) fun x7 h=>L h)) (fun h5 h=>ai (g1 h5)<|ai (g1 h5)<|ai (g1 h5)<|ai (g1 h5)<|ai h5<|ai gf<|ai gf<|ai gf<|ai gf<|ai gf<|ai ff<|aP h (jy dp hp k0 hk_k0 hz c0 a0 r3 false [.sk,.sk,.sk,.sk,.sk,(.b false),(.b false),.sk,.sk,.sk,.sk]) fun x6 h=>L h)
def ov:List bM:=gH (gA 48 81)::[]
def dw(c0:Checker)(a0:Stmt)(r3:(Bool×Bool×Bool))(x5:Bool)(u4_1:Bool)(u5_1:Bool):Option Bool:=
 some u5_1
abbrev uD(c0:Checker)(a0:Stmt)(r3:(Bool×Bool×Bool))(x5:Bool)(u4_1:Bool)(u5_1:Bool)(x:Bool):St:=⟨[(0,(.p k0 0)),(3,(.p ⟨dp,3⟩ 0)),(5,(I a0.Kind)),(6,(.b r3.1)),(7,(.b r3.2.1)),(8,(.b r3.2.2)),(9,(.b (decide (7≤a0.Kind)))),(10,(.b x5)),(48,(.b x))],[(3,(ah a0))],ad hp k0 (aq c0)⟩
theorem fA(hk_k0:k0.dp<dp)(hz:aO dp hp)(c0:Checker)(a0:Stmt)(r3:(Bool×Bool×Bool))(x5:Bool)(u4_1:Bool)(u5_1:Bool)(w:List AV)(x:Bool)(h:dw c0 a0 r3 x5 u4_1 u5_1=some x):xa G Ω0 ⟨dp,true⟩ [0,3,5,6,7,8,9,10,48] [0,3] ov ⟨[(81,(.b u5_1)),(80,(W w 0)),(79,(W w 1)),(78,(W w 2)),(77,(W w 3)),(76,(W w 4)),(75,(W w 5)),(74,(W w 6)),(73,(W w 7)),(72,(W w 8)),(71,(W w 9)),(70,(W w 10)),(69,(W w 11)),(68,(W w 12)),(67,(W w 13)),(66,(.b u4_1)),(65,(.b u4_1)),(64,(W w 14)),(63,(W w 15)),(62,(W w 16)),(61,(W w 17)),(60,(W w 18)),(59,(W w 19)),(58,(W w 20)),(57,(W w 21)),(56,(W w 22)),(55,(W w 23)),(54,(W w 24)),(53,(W w 25)),(52,(W w 26)),(51,(W w 27)),(50,(.b r3.1)),(49,(.b r3.1)),(0,(.p k0 0)),(3,(.p ⟨dp,3⟩ 0)),(5,(I a0.Kind)),(6,(.b r3.1)),(7,(.b r3.2.1)),(8,(.b r3.2.2)),(9,(.b (decide (7≤a0.Kind)))),(10,(.b x5))],[(3,(ah a0))],ad hp k0 (aq c0)⟩=some (uD dp hp k0 c0 a0 r3 x5 u4_1 u5_1 x):=
 Ff (.nil) fun L=>L h
def ox:List bM:=gL (gM 66 65) [65] []::⟨⟨some 67,.mv 7,some ⟨66,false⟩,false⟩,true,[7],[],false,[],[],[]⟩::⟨⟨some 68,.mv 67,some ⟨66,false⟩,false⟩,true,[67],[],false,[],[],[]⟩::⟨⟨some 69,.fa 2 3,some ⟨68,true⟩,false⟩,true,[3],[],false,[],[],[]⟩::⟨⟨some 70,.ld none 69,some ⟨68,true⟩,false⟩,true,[69],[3],false,[],[],[]⟩::⟨⟨some 71,.bo .lss false 70 (kI 0),some ⟨68,true⟩,false⟩,true,[70],[],false,[],[],[]⟩::⟨⟨some 72,.mv 71,some ⟨68,true⟩,false⟩,true,[71],[],false,[],[],[]⟩::⟨⟨some 73,.fa 2 3,some ⟨72,false⟩,false⟩,true,[3],[],false,[],[],[]⟩::⟨⟨some 74,.ld none 73,some ⟨72,false⟩,false⟩,true,[73],[3],false,[],[],[]⟩::⟨⟨some 75,.mv 0,some ⟨72,false⟩,false⟩,true,[0],[],false,[],[],[]⟩::⟨⟨some 76,.mv 5,some ⟨72,false⟩,false⟩,true,[5],[],false,[],[],[]⟩::⟨⟨some 77,.c3 163 [75,76],some ⟨72,false⟩,false⟩,true,[75,76],[],true,[],[],[]⟩::⟨⟨some 78,.bo .geq false 74 77,some ⟨72,false⟩,false⟩,false,[],[],false,[],[],[]⟩::⟨⟨some 79,.pk 72 (.c (.b true)) 78,some ⟨68,true⟩,false⟩,false,[],[],false,[],[],[]⟩::⟨⟨some 80,.pk 68 79 (.c (.b false)),some ⟨66,false⟩,false⟩,false,[],[],false,[],[],[]⟩::gH (gp 81 (.pk 66 (.c (.b true)) 80))::ov
def dx(r3:(Bool×Bool×Bool))(x5:Bool)(u4_1:Bool):Option Bool:=
 if u4_1=true then
  (dw c0 a0 r3 x5 u4_1 true).bind fun (x10:Bool)=>
  some x10
 else
  if r3.2.1=true then
   if a0.Other<0 then
    (dw c0 a0 r3 x5 u4_1 true).bind fun (x12:Bool)=>
    some x12
   else
    (gk c0 a0.Kind).bind fun (r12:Int)=>
    (dw c0 a0 r3 x5 u4_1 (decide (r12≤a0.Other))).bind fun (x14:Bool)=>
    some x14
  else
   (dw c0 a0 r3 x5 u4_1 false).bind fun (x11:Bool)=>
   some x11
abbrev uE(c0:Checker)(a0:Stmt)(r3:(Bool×Bool×Bool))(x5:Bool)(u4_1:Bool)(x:Bool):St:=⟨[(0,(.p k0 0)),(3,(.p ⟨dp,3⟩ 0)),(5,(I a0.Kind)),(6,(.b r3.1)),(7,(.b r3.2.1)),(8,(.b r3.2.2)),(9,(.b (decide (7≤a0.Kind)))),(10,(.b x5)),(48,(.b x))],[(3,(ah a0))],ad hp k0 (aq c0)⟩
theorem jz(hk_k0:k0.dp<dp)(hz:aO dp hp)(c0:Checker)(a0:Stmt)(r3:(Bool×Bool×Bool))(x5:Bool)(u4_1:Bool)(w:List AV)(x:Bool)(h:dx c0 a0 r3 x5 u4_1=some x):xa G Ω0 ⟨dp,true⟩ [0,3,5,6,7,8,9,10,48] [0,3] ox ⟨[(65,(.b u4_1)),(64,(W w 0)),(63,(W w 1)),(62,(W w 2)),(61,(W w 3)),(60,(W w 4)),(59,(W w 5)),(58,(W w 6)),(57,(W w 7)),(56,(W w 8)),(55,(W w 9)),(54,(W w 10)),(53,(W w 11)),(52,(W w 12)),(51,(W w 13)),(50,(.b r3.1)),(49,(.b r3.1)),(0,(.p k0 0)),(3,(.p ⟨dp,3⟩ 0)),(5,(I a0.Kind)),(6,(.b r3.1)),(7,(.b r3.2.1)),(8,(.b r3.2.2)),(9,(.b (decide (7≤a0.Kind)))),(10,(.b x5))],[(3,(ah a0))],ad hp k0 (aq c0)⟩=some (uE dp hp k0 c0 a0 r3 x5 u4_1 x):=
 Ff (.or (bf<|bf<|bf<|bt<|.jb (some 48) 0<|.ex fun (x10:Bool)=>ao (.jn ⟨[(0,(.p k0 0)),(3,(.p ⟨dp,3⟩ 0)),(5,(I a0.Kind)),(6,(.b r3.1)),(7,(.b r3.2.1)),(8,(.b r3.2.2)),(9,(.b (decide (7≤a0.Kind)))),(10,(.b x5)),(48,(.b x10))],[(3,(ah a0))],ad hp k0 (aq c0)⟩)<|.nil) (dE<|.or (p9<|.or (bf<|bf<|bf<|bf<|bf<|bf<|bt<|bt<|bt<|bt<|bf<|.jb (some 48) 0<|.ex fun (x12:Bool)=>ao (.jn ⟨[(0,(.p k0 0)),(3,(.p ⟨dp,3⟩ 0)),(5,(I a0.Kind)),(6,(.b r3.1)),(7,(.b r3.2.1)),(8,(.b r3.2.2)),(9,(.b (decide (7≤a0.Kind)))),(10,(.b x5)),(48,(.b x12))],[(3,(ah a0))],ad hp k0 (aq c0)⟩)<|.nil) (IF<|xI fun r12=>ao (.h (boxes dp [] (ad hp k0 (aq c0))))<|bt<|bt<|bf<|bt<|bt<|bf<|.jb (some 48) 0<|.ex fun (x14:Bool)=>ao (.jn ⟨[(0,(.p k0 0)),(3,(.p ⟨dp,3⟩ 0)),(5,(I a0.Kind)),(6,(.b r3.1)),(7,(.b r3.2.1)),(8,(.b r3.2.2)),(9,(.b (decide (7≤a0.Kind)))),(10,(.b x5)),(48,(.b x14))],[(3,(ah a0))],ad hp k0 (aq c0)⟩)<|.nil)) (bf<|bf<|bf<|bf<|bf<|bt<|bf<|bf<|.jb (some 48) 0<|.ex fun (x11:Bool)=>ao (.jn ⟨[(0,(.p k0 0)),(3,(.p ⟨dp,3⟩ 0)),(5,(I a0.Kind)),(6,(.b r3.1)),(7,(.b r3.2.1)),(8,(.b r3.2.2)),(9,(.b (decide (7≤a0.Kind)))),(10,(.b x5)),(48,(.b x11))],[(3,(ah a0))],ad hp k0 (aq c0)⟩)<|.nil))) fun L=>ai tt<|ba h (fun h9 h=>ai (g0 h9)<|ai (g0 h9)<|ai (g0 h9)<|ai h9<|aP h (fA dp hp k0 hk_k0 hz c0 a0 r3 x5 u4_1 true [.sk,.sk,.sk,.sk,.sk,.sk,.sk,.sk,.sk,.sk,.sk,.sk,.sk,.sk,(W w 0),(W w 1),(W w 2),(W w 3),(W w 4),(W w 5),(W w 6),(W w 7),(W w 8),(W w 9),(W w 10),(W w 11),(W w 12),(W w 13)]) fun x10 h=>L h) (fun h9 h=>ai (g0 h9)<|ai tt<|ai (g0 h9)<|ai tt<|ba h (fun h10 h=>ai (g1 h10)<|ai tt<|ai (g1 h10)<|ai (rN dp)<|ai tt<|ai (g1 h10)<|ai tt<|ai (g1 h10)<|ai tt<|bZ h (fun h11 h=>ai (g0 (decide_eq_true h11))<|ai (g0 (decide_eq_true h11))<|ai (g0 (decide_eq_true h11))<|ai (g0 (decide_eq_true h11))<|ai (g0 (decide_eq_true h11))<|ai (g0 (decide_eq_true h11))<|ai (g1 h10)<|ai (decide_eq_true h11)<|ai (g0 h9)<|ai h10<|ai h9<|aP h (fA dp hp k0 hk_k0 hz c0 a0 r3 x5 u4_1 true [(.b true),(.b true),.sk,.sk,.sk,.sk,.sk,.sk,(.b (decide (a0.Other<0))),(.b (decide (a0.Other<0))),(I a0.Other),(.p ⟨dp,3⟩ 2),(.b r3.2.1),(.b r3.2.1),(W w 0),(W w 1),(W w 2),(W w 3),(W w 4),(W w 5),(W w 6),(W w 7),(W w 8),(W w 9),(W w 10),(W w 11),(W w 12),(W w 13)]) fun x12 h=>L h) (fun h11 h=>ai (g0 (decide_eq_false h11))<|ai tt<|ai (g0 (decide_eq_false h11))<|ai (rN dp)<|ai tt<|ai (g0 (decide_eq_false h11))<|ai tt<|ai (g0 (decide_eq_false h11))<|ai tt<|ai (g0 (decide_eq_false h11))<|ai tt<|aZ h fun r12 ek13 h=>have ek13:=cO hk_k0 (sU (dp+1) (boxes dp [] (ad hp k0 (aq c0))) k0 (Nat.lt_succ_of_lt hk_k0) (aE (ab hk_k0 (hz))) c0 a0.Kind _ ek13);ai ek13<|ai tt<|ai (g0 (decide_eq_false h11))<|ai (g1 h10)<|ai (decide_eq_false h11)<|ai (g0 h9)<|ai h10<|ai h9<|aP h (fA dp hp k0 hk_k0 hz c0 a0 r3 x5 u4_1 (decide (r12≤a0.Other)) [(.b (decide (r12≤a0.Other))),(.b (decide (r12≤a0.Other))),(.b (decide (r12≤a0.Other))),(I r12),(I a0.Kind),(.p k0 0),(I a0.Other),(.p ⟨dp,3⟩ 2),(.b (decide (a0.Other<0))),(.b (decide (a0.Other<0))),(I a0.Other),(.p ⟨dp,3⟩ 2),(.b r3.2.1),(.b r3.2.1),(W w 0),(W w 1),(W w 2),(W w 3),(W w 4),(W w 5),(W w 6),(W w 7),(W w 8),(W w 9),(W w 10),(W w 11),(W w 12),(W w 13)]) fun x14 h=>L h)) (fun h10 h=>ai (g1 h10)<|ai (g1 h10)<|ai (g1 h10)<|ai (g1 h10)<|ai (g1 h10)<|ai (g0 h9)<|ai h10<|ai h9<|aP h (fA dp hp k0 hk_k0 hz c0 a0 r3 x5 u4_1 false [(.b false),.sk,.sk,.sk,.sk,.sk,.sk,.sk,.sk,.sk,.sk,.sk,(.b r3.2.1),(.b r3.2.1),(W w 0),(W w 1),(W w 2),(W w 3),(W w 4),(W w 5),(W w 6),(W w 7),(W w 8),(W w 9),(W w 10),(W w 11),(W w 12),(W w 13)]) fun x11 h=>L h))
def uF:List bM:=gL (gM 49 6) [6] []::gL (gM 50 49) [49] []::⟨⟨some 51,.fa 1 3,some ⟨50,true⟩,false⟩,true,[3],[],false,[],[],[]⟩::⟨⟨some 52,.ld none 51,some ⟨50,true⟩,false⟩,true,[51],[3],false,[],[],[]⟩::⟨⟨some 53,.bo .lss false 52 (kI 0),some ⟨50,true⟩,false⟩,true,[52],[],false,[],[],[]⟩::⟨⟨some 54,.mv 53,some ⟨50,true⟩,false⟩,true,[53],[],false,[],[],[]⟩::⟨⟨some 55,.fa 1 3,some ⟨54,false⟩,false⟩,true,[3],[],false,[],[],[]⟩::⟨⟨some 56,.ld none 55,some ⟨54,false⟩,false⟩,true,[55],[3],false,[],[],[]⟩::⟨⟨some 57,.mv 0,some ⟨54,false⟩,false⟩,true,[0],[],false,[],[],[]⟩::⟨⟨some 58,.nc 57,some ⟨54,false⟩,false⟩,true,[57],[],false,[],[],[]⟩::⟨⟨some 59,.fa 0 58,some ⟨54,false⟩,false⟩,true,[58],[],false,[],[],[]⟩::⟨⟨some 60,.fa 5 59,some ⟨54,false⟩,false⟩,true,[59],[],false,[],[],[]⟩::⟨⟨some 61,.ld none 60,some ⟨54,false⟩,false⟩,true,[60],[],true,[],[],[]⟩::⟨⟨some 62,.ln false 61,some ⟨54,false⟩,false⟩,true,[61],[],true,[],[],[]⟩::⟨⟨some 63,.bo .geq false 56 62,some ⟨54,false⟩,false⟩,true,[56,62],[],false,[],[],[]⟩::⟨⟨some 64,.pk 54 (.c (.b true)) 63,some ⟨50,true⟩,false⟩,true,[54,63],[],false,[],[],[]⟩::gL (gp 65 (.pk 50 64 (.c (.b false)))) [50,64] []::ox
def fO(r3:(Bool×Bool×Bool))(x5:Bool):Option Bool:=
 if r3.1=true then
  if a0.Var<0 then
   (dx c0 a0 r3 x5 true).bind fun (x9:Bool)=>
   some x9
  else
   (dx c0 a0 r3 x5 (decide ((c0.p.Vars.length:Int)≤a0.Var))).bind fun (x9:Bool)=>
   some x9
 else
  (dx c0 a0 r3 x5 false).bind fun (x8:Bool)=>
  some x8
abbrev uG(c0:Checker)(a0:Stmt)(r3:(Bool×Bool×Bool))(x5:Bool)(x:Bool):St:=⟨[(0,(.p k0 0)),(3,(.p ⟨dp,3⟩ 0)),(5,(I a0.Kind)),(6,(.b r3.1)),(7,(.b r3.2.1)),(8,(.b r3.2.2)),(9,(.b (decide (7≤a0.Kind)))),(10,(.b x5)),(48,(.b x))],[(3,(ah a0))],ad hp k0 (aq c0)⟩
theorem tP(hk_k0:k0.dp<dp)(hz:aO dp hp)(c0:Checker)(a0:Stmt)(r3:(Bool×Bool×Bool))(x5:Bool)(x:Bool)(h:fO c0 a0 r3 x5=some x):xa G Ω0 ⟨dp,true⟩ [0,3,5,6,7,8,9,10,48] [0,3] uF ⟨[(0,(.p k0 0)),(3,(.p ⟨dp,3⟩ 0)),(5,(I a0.Kind)),(6,(.b r3.1)),(7,(.b r3.2.1)),(8,(.b r3.2.2)),(9,(.b (decide (7≤a0.Kind)))),(10,(.b x5))],[(3,(ah a0))],ad hp k0 (aq c0)⟩=some (uG dp hp k0 c0 a0 r3 x5 x):=
 Ff (.or (p9<|.or (bf<|bf<|bf<|bf<|bf<|bf<|bf<|bf<|bf<|bt<|bt<|bt<|.jb (some 66) 16<|.ex fun (x9:Bool)=>ao (.jn ⟨[(0,(.p k0 0)),(3,(.p ⟨dp,3⟩ 0)),(5,(I a0.Kind)),(6,(.b r3.1)),(7,(.b r3.2.1)),(8,(.b r3.2.2)),(9,(.b (decide (7≤a0.Kind)))),(10,(.b x5)),(48,(.b x9))],[(3,(ah a0))],ad hp k0 (aq c0)⟩)<|.nil) (bt<|bt<|bt<|bt<|bt<|bt<|bt<|bt<|bf<|ao (.l (aq c0))<|bt<|ao (.i (c0.p.Vars.length:Int))<|bt<|bt<|bf<|bt<|.jb (some 66) 16<|.ex fun (x9:Bool)=>ao (.jn ⟨[(0,(.p k0 0)),(3,(.p ⟨dp,3⟩ 0)),(5,(I a0.Kind)),(6,(.b r3.1)),(7,(.b r3.2.1)),(8,(.b r3.2.2)),(9,(.b (decide (7≤a0.Kind)))),(10,(.b x5)),(48,(.b x9))],[(3,(ah a0))],ad hp k0 (aq c0)⟩)<|.nil)) (IG<|.jb (some 66) 16<|.ex fun (x8:Bool)=>ao (.jn ⟨[(0,(.p k0 0)),(3,(.p ⟨dp,3⟩ 0)),(5,(I a0.Kind)),(6,(.b r3.1)),(7,(.b r3.2.1)),(8,(.b r3.2.2)),(9,(.b (decide (7≤a0.Kind)))),(10,(.b x5)),(48,(.b x8))],[(3,(ah a0))],ad hp k0 (aq c0)⟩)<|.nil)) fun L=>cR<|ba h (fun h7 h=>ai (g1 h7)<|ai tt<|ai (g1 h7)<|ai (rN dp)<|ai tt<|ai (g1 h7)<|ai tt<|ai (g1 h7)<|ai tt<|bZ h (fun h8 h=>ai (g0 (decide_eq_true h8))<|ai (g0 (decide_eq_true h8))<|ai (g0 (decide_eq_true h8))<|ai (g0 (decide_eq_true h8))<|ai (g0 (decide_eq_true h8))<|ai (g0 (decide_eq_true h8))<|ai (g0 (decide_eq_true h8))<|ai (g0 (decide_eq_true h8))<|ai (g0 (decide_eq_true h8))<|ai (g1 h7)<|ai (decide_eq_true h8)<|ai tt<|ai h7<|ai tt<|aP h (jz dp hp k0 hk_k0 hz c0 a0 r3 x5 true [(.b true),.sk,.sk,.sk,.sk,.sk,.sk,.sk,.sk,.sk,(.b (decide (a0.Var<0))),(.b (decide (a0.Var<0))),(I a0.Var),(.p ⟨dp,3⟩ 1)]) fun x9 h=>L h) (fun h8 h=>ai (g0 (decide_eq_false h8))<|ai tt<|ai (g0 (decide_eq_false h8))<|ai (rN dp)<|ai tt<|ai (g0 (decide_eq_false h8))<|ai tt<|ai (g0 (decide_eq_false h8))<|ai tt<|ai (g0 (decide_eq_false h8))<|ai tt<|ai (g0 (decide_eq_false h8))<|ai tt<|ai (g0 (decide_eq_false h8))<|ai (Nat.ne_of_lt hk_k0)<|ai (aN hp k0 (aq c0))<|ai tt<|ai (g0 (decide_eq_false h8))<|ai (aL bm c0.p.Vars)<|ai tt<|ai (g0 (decide_eq_false h8))<|ai tt<|ai (g1 h7)<|ai (decide_eq_false h8)<|ai tt<|ai h7<|ai tt<|aP h (jz dp hp k0 hk_k0 hz c0 a0 r3 x5 (decide ((c0.p.Vars.length:Int)≤a0.Var)) [(.b (decide ((c0.p.Vars.length:Int)≤a0.Var))),(.b (decide ((c0.p.Vars.length:Int)≤a0.Var))),(I (c0.p.Vars.length:Int)),(.l 51 (c0.p.Vars.map bm)),(.p k0 5),(.p k0 0),(.p k0 0),(.p k0 0),(I a0.Var),(.p ⟨dp,3⟩ 1),(.b (decide (a0.Var<0))),(.b (decide (a0.Var<0))),(I a0.Var),(.p ⟨dp,3⟩ 1)]) fun x9 h=>L h)) (fun h7 h=>ai (g1 h7)<|ai (g1 h7)<|ai (g1 h7)<|ai (g1 h7)<|ai (g1 h7)<|ai h7<|ai tt<|aP h (jz dp hp k0 hk_k0 hz c0 a0 r3 x5 false [.sk,.sk,.sk,.sk,.sk,.sk,.sk,.sk,.sk,.sk,.sk,.sk,.sk,.sk]) fun x8 h=>L h)
def nh:List dQ:=(gA 82 136)::[]
def eb(c0:Checker)(a0:Stmt)(r3:(Bool×Bool×Bool))(x5:Bool)(x7:Bool)(u7_1:Bool)(u8_1:Bool)(u9_1:Bool)(u10_1:Bool)(u11_1:Bool):Option Bool:=
 some u11_1
abbrev tQ(c0:Checker)(a0:Stmt)(r3:(Bool×Bool×Bool))(x5:Bool)(x7:Bool)(u7_1:Bool)(u8_1:Bool)(u9_1:Bool)(u10_1:Bool)(u11_1:Bool)(x:Bool):St:=⟨[(0,(.p k0 0)),(3,(.p ⟨dp,3⟩ 0)),(5,(I a0.Kind)),(8,(.b r3.2.2)),(82,(.b x))],[(3,(ah a0))],ad hp k0 (aq c0)⟩
theorem iN(hk_k0:k0.dp<dp)(hz:aO dp hp)(c0:Checker)(a0:Stmt)(r3:(Bool×Bool×Bool))(x5:Bool)(x7:Bool)(u7_1:Bool)(u8_1:Bool)(u9_1:Bool)(u10_1:Bool)(u11_1:Bool)(w:List AV)(x:Bool)(h:eb c0 a0 r3 x5 x7 u7_1 u8_1 u9_1 u10_1 u11_1=some x):mg G Ω0 ⟨dp,true⟩ [0,3,5,8,82] [0,3] nh ⟨[(136,(.b u11_1)),(135,(W w 0)),(134,(W w 1)),(133,(W w 2)),(132,(W w 3)),(131,(W w 4)),(130,(W w 5)),(129,(W w 6)),(128,(W w 7)),(127,(.b u10_1)),(126,(.b u10_1)),(125,(W w 8)),(124,(W w 9)),(123,(W w 10)),(122,(W w 11)),(121,(W w 12)),(120,(W w 13)),(119,(W w 14)),(118,(W w 15)),(117,(.b u9_1)),(116,(.b u9_1)),(115,(W w 16)),(114,(W w 17)),(113,(W w 18)),(112,(W w 19)),(111,(W w 20)),(110,(W w 21)),(109,(W w 22)),(108,(W w 23)),(107,(.b u8_1)),(106,(.b u8_1)),(105,(W w 24)),(104,(W w 25)),(103,(W w 26)),(102,(W w 27)),(101,(W w 28)),(100,(W w 29)),(99,(.b u7_1)),(98,(.b u7_1)),(97,(W w 30)),(96,(W w 31)),(95,(W w 32)),(94,(W w 33)),(93,(W w 34)),(92,(W w 35)),(91,(W w 36)),(90,(W w 37)),(89,(W w 38)),(88,(W w 39)),(87,(W w 40)),(86,(W w 41)),(85,(.b (!r3.1))),(84,(.b (!r3.1))),(83,(.b r3.1)),(0,(.p k0 0)),(3,(.p ⟨dp,3⟩ 0)),(5,(I a0.Kind)),(6,(.b r3.1)),(7,(.b r3.2.1)),(8,(.b r3.2.2)),(9,(.b (decide (7≤a0.Kind)))),(10,(.b x5)),(48,(.b x7))],[(3,(ah a0))],ad hp k0 (aq c0)⟩=some (tQ dp hp k0 c0 a0 r3 x5 x7 u7_1 u8_1 u9_1 u10_1 u11_1 x):=
 lT (.nil) fun L=>L h
def nj:List dQ:=(gM 127 126)::⟨some 128,.mv 5,some ⟨127,false⟩,false⟩::⟨some 129,.bo .neq false 128 (kI 7),some ⟨127,false⟩,false⟩::⟨some 130,.mv 129,some ⟨127,false⟩,false⟩::⟨some 131,.fa 8 3,some ⟨130,true⟩,false⟩::⟨some 132,.ld none 131,some ⟨130,true⟩,false⟩::⟨some 133,.ln false 132,some ⟨130,true⟩,false⟩::⟨some 134,.bo .gtr false 133 (kI 0),some ⟨130,true⟩,false⟩::⟨some 135,.pk 130 134 (.c (.b false)),some ⟨127,false⟩,false⟩::(gp 136 (.pk 127 (.c (.b true)) 135))::nh
def dk(r3:(Bool×Bool×Bool))(x5:Bool)(x7:Bool)(u7_1:Bool)(u8_1:Bool)(u9_1:Bool)(u10_1:Bool):Option Bool:=
 if u10_1=true then
  (eb c0 a0 r3 x5 x7 u7_1 u8_1 u9_1 u10_1 true).bind fun (x20:Bool)=>
  some x20
 else
  if (a0.Kind !=7)=true then
   (eb c0 a0 r3 x5 x7 u7_1 u8_1 u9_1 u10_1 (decide (0<(a0.Else.length:Int)))).bind fun (x21:Bool)=>
   some x21
  else
   (eb c0 a0 r3 x5 x7 u7_1 u8_1 u9_1 u10_1 false).bind fun (x21:Bool)=>
   some x21
abbrev tR(c0:Checker)(a0:Stmt)(r3:(Bool×Bool×Bool))(x5:Bool)(x7:Bool)(u7_1:Bool)(u8_1:Bool)(u9_1:Bool)(u10_1:Bool)(x:Bool):St:=⟨[(0,(.p k0 0)),(3,(.p ⟨dp,3⟩ 0)),(5,(I a0.Kind)),(8,(.b r3.2.2)),(82,(.b x))],[(3,(ah a0))],ad hp k0 (aq c0)⟩
theorem iO(hk_k0:k0.dp<dp)(hz:aO dp hp)(c0:Checker)(a0:Stmt)(r3:(Bool×Bool×Bool))(x5:Bool)(x7:Bool)(u7_1:Bool)(u8_1:Bool)(u9_1:Bool)(u10_1:Bool)(w:List AV)(x:Bool)(h:dk c0 a0 r3 x5 x7 u7_1 u8_1 u9_1 u10_1=some x):mg G Ω0 ⟨dp,true⟩ [0,3,5,8,82] [0,3] nj ⟨[(126,(.b u10_1)),(125,(W w 0)),(124,(W w 1)),(123,(W w 2)),(122,(W w 3)),(121,(W w 4)),(120,(W w 5)),(119,(W w 6)),(118,(W w 7)),(117,(.b u9_1)),(116,(.b u9_1)),(115,(W w 8)),(114,(W w 9)),(113,(W w 10)),(112,(W w 11)),(111,(W w 12)),(110,(W w 13)),(109,(W w 14)),(108,(W w 15)),(107,(.b u8_1)),(106,(.b u8_1)),(105,(W w 16)),(104,(W w 17)),(103,(W w 18)),(102,(W w 19)),(101,(W w 20)),(100,(W w 21)),(99,(.b u7_1)),(98,(.b u7_1)),(97,(W w 22)),(96,(W w 23)),(95,(W w 24)),(94,(W w 25)),(93,(W w 26)),(92,(W w 27)),(91,(W w 28)),(90,(W w 29)),(89,(W w 30)),(88,(W w 31)),(87,(W w 32)),(86,(W w 33)),(85,(.b (!r3.1))),(84,(.b (!r3.1))),(83,(.b r3.1)),(0,(.p k0 0)),(3,(.p ⟨dp,3⟩ 0)),(5,(I a0.Kind)),(6,(.b r3.1)),(7,(.b r3.2.1)),(8,(.b r3.2.2)),(9,(.b (decide (7≤a0.Kind)))),(10,(.b x5)),(48,(.b x7))],[(3,(ah a0))],ad hp k0 (aq c0)⟩=some (tR dp hp k0 c0 a0 r3 x5 x7 u7_1 u8_1 u9_1 u10_1 x):=
 lT (.or (DY<|.jb (some 82) 0<|.ex fun (x20:Bool)=>ao (.jn ⟨[(0,(.p k0 0)),(3,(.p ⟨dp,3⟩ 0)),(5,(I a0.Kind)),(8,(.b r3.2.2)),(82,(.b x20))],[(3,(ah a0))],ad hp k0 (aq c0)⟩)<|.nil) (dF<|.or (tE<|ao (.i (a0.Else.length:Int))<|Hx<|.jb (some 82) 0<|.ex fun (x21:Bool)=>ao (.jn ⟨[(0,(.p k0 0)),(3,(.p ⟨dp,3⟩ 0)),(5,(I a0.Kind)),(8,(.b r3.2.2)),(82,(.b x21))],[(3,(ah a0))],ad hp k0 (aq c0)⟩)<|.nil) (LZ<|.jb (some 82) 0<|.ex fun (x21:Bool)=>ao (.jn ⟨[(0,(.p k0 0)),(3,(.p ⟨dp,3⟩ 0)),(5,(I a0.Kind)),(8,(.b r3.2.2)),(82,(.b x21))],[(3,(ah a0))],ad hp k0 (aq c0)⟩)<|.nil))) fun L=>ba h (fun h19 h=>DX h19<|aP h (iN dp hp k0 hk_k0 hz c0 a0 r3 x5 x7 u7_1 u8_1 u9_1 u10_1 true [.sk,.sk,.sk,.sk,.sk,.sk,.sk,.sk,(W w 0),(W w 1),(W w 2),(W w 3),(W w 4),(W w 5),(W w 6),(W w 7),(W w 8),(W w 9),(W w 10),(W w 11),(W w 12),(W w 13),(W w 14),(W w 15),(W w 16),(W w 17),(W w 18),(W w 19),(W w 20),(W w 21),(W w 22),(W w 23),(W w 24),(W w 25),(W w 26),(W w 27),(W w 28),(W w 29),(W w 30),(W w 31),(W w 32),(W w 33)]) fun x20 h=>L h) (fun h19 h=>DW h19<|ba h (fun h20 h=>yB h20<|ai (rN dp)<|ai (g1 h20)<|ai (aL aH a0.Else)<|ai (g1 h20)<|ai (g0 h19)<|ai h20<|ai h19<|aP h (iN dp hp k0 hk_k0 hz c0 a0 r3 x5 x7 u7_1 u8_1 u9_1 u10_1 (decide (0<(a0.Else.length:Int))) [(.b (decide (0<(a0.Else.length:Int)))),(.b (decide (0<(a0.Else.length:Int)))),(I (a0.Else.length:Int)),(.l 88 (a0.Else.map aH)),(.p ⟨dp,3⟩ 8),(.b (a0.Kind !=7)),(.b (a0.Kind !=7)),(I a0.Kind),(W w 0),(W w 1),(W w 2),(W w 3),(W w 4),(W w 5),(W w 6),(W w 7),(W w 8),(W w 9),(W w 10),(W w 11),(W w 12),(W w 13),(W w 14),(W w 15),(W w 16),(W w 17),(W w 18),(W w 19),(W w 20),(W w 21),(W w 22),(W w 23),(W w 24),(W w 25),(W w 26),(W w 27),(W w 28),(W w 29),(W w 30),(W w 31),(W w 32),(W w 33)]) fun x21 h=>L h) (fun h20 h=>ai (g1 h20)<|ai (g1 h20)<|ai (g1 h20)<|ai (g1 h20)<|ai (g0 h19)<|ai h20<|ai h19<|aP h (iN dp hp k0 hk_k0 hz c0 a0 r3 x5 x7 u7_1 u8_1 u9_1 u10_1 false [(.b false),.sk,.sk,.sk,.sk,(.b (a0.Kind !=7)),(.b (a0.Kind !=7)),(I a0.Kind),(W w 0),(W w 1),(W w 2),(W w 3),(W w 4),(W w 5),(W w 6),(W w 7),(W w 8),(W w 9),(W w 10),(W w 11),(W w 12),(W w 13),(W w 14),(W w 15),(W w 16),(W w 17),(W w 18),(W w 19),(W w 20),(W w 21),(W w 22),(W w 23),(W w 24),(W w 25),(W w 26),(W w 27),(W w 28),(W w 29),(W w 30),(W w 31),(W w 32),(W w 33)]) fun x21 h=>L h))
def oy:List dQ:=(gM 117 116)::⟨some 118,.mv 9,some ⟨117,false⟩,false⟩::⟨some 119,.no 118,some ⟨117,false⟩,false⟩::⟨some 120,.mv 119,some ⟨117,false⟩,false⟩::⟨some 121,.fa 7 3,some ⟨120,true⟩,false⟩::⟨some 122,.ld none 121,some ⟨120,true⟩,false⟩::⟨some 123,.ln false 122,some ⟨120,true⟩,false⟩::⟨some 124,.bo .gtr false 123 (kI 0),some ⟨120,true⟩,false⟩::⟨some 125,.pk 120 124 (.c (.b false)),some ⟨117,false⟩,false⟩::(gp 126 (.pk 117 (.c (.b true)) 125))::nj
def dy(r3:(Bool×Bool×Bool))(x5:Bool)(x7:Bool)(u7_1:Bool)(u8_1:Bool)(u9_1:Bool):Option Bool:=
 if u9_1=true then
  (dk c0 a0 r3 x5 x7 u7_1 u8_1 u9_1 true).bind fun (x18:Bool)=>
  some x18
 else
  if 7≤a0.Kind then
   (dk c0 a0 r3 x5 x7 u7_1 u8_1 u9_1 false).bind fun (x19:Bool)=>
   some x19
  else
   (dk c0 a0 r3 x5 x7 u7_1 u8_1 u9_1 (decide (0<(a0.Then.length:Int)))).bind fun (x19:Bool)=>
   some x19
abbrev uH(c0:Checker)(a0:Stmt)(r3:(Bool×Bool×Bool))(x5:Bool)(x7:Bool)(u7_1:Bool)(u8_1:Bool)(u9_1:Bool)(x:Bool):St:=⟨[(0,(.p k0 0)),(3,(.p ⟨dp,3⟩ 0)),(5,(I a0.Kind)),(8,(.b r3.2.2)),(82,(.b x))],[(3,(ah a0))],ad hp k0 (aq c0)⟩
theorem jA(hk_k0:k0.dp<dp)(hz:aO dp hp)(c0:Checker)(a0:Stmt)(r3:(Bool×Bool×Bool))(x5:Bool)(x7:Bool)(u7_1:Bool)(u8_1:Bool)(u9_1:Bool)(w:List AV)(x:Bool)(h:dy c0 a0 r3 x5 x7 u7_1 u8_1 u9_1=some x):mg G Ω0 ⟨dp,true⟩ [0,3,5,8,82] [0,3] oy ⟨[(116,(.b u9_1)),(115,(W w 0)),(114,(W w 1)),(113,(W w 2)),(112,(W w 3)),(111,(W w 4)),(110,(W w 5)),(109,(W w 6)),(108,(W w 7)),(107,(.b u8_1)),(106,(.b u8_1)),(105,(W w 8)),(104,(W w 9)),(103,(W w 10)),(102,(W w 11)),(101,(W w 12)),(100,(W w 13)),(99,(.b u7_1)),(98,(.b u7_1)),(97,(W w 14)),(96,(W w 15)),(95,(W w 16)),(94,(W w 17)),(93,(W w 18)),(92,(W w 19)),(91,(W w 20)),(90,(W w 21)),(89,(W w 22)),(88,(W w 23)),(87,(W w 24)),(86,(W w 25)),(85,(.b (!r3.1))),(84,(.b (!r3.1))),(83,(.b r3.1)),(0,(.p k0 0)),(3,(.p ⟨dp,3⟩ 0)),(5,(I a0.Kind)),(6,(.b r3.1)),(7,(.b r3.2.1)),(8,(.b r3.2.2)),(9,(.b (decide (7≤a0.Kind)))),(10,(.b x5)),(48,(.b x7))],[(3,(ah a0))],ad hp k0 (aq c0)⟩=some (uH dp hp k0 c0 a0 r3 x5 x7 u7_1 u8_1 u9_1 x):=
 lT (.or (DY<|.jb (some 127) 10<|.ex fun (x18:Bool)=>ao (.jn ⟨[(0,(.p k0 0)),(3,(.p ⟨dp,3⟩ 0)),(5,(I a0.Kind)),(8,(.b r3.2.2)),(82,(.b x18))],[(3,(ah a0))],ad hp k0 (aq c0)⟩)<|.nil) (dF<|.or (LZ<|.jb (some 127) 10<|.ex fun (x19:Bool)=>ao (.jn ⟨[(0,(.p k0 0)),(3,(.p ⟨dp,3⟩ 0)),(5,(I a0.Kind)),(8,(.b r3.2.2)),(82,(.b x19))],[(3,(ah a0))],ad hp k0 (aq c0)⟩)<|.nil) (tE<|ao (.i (a0.Then.length:Int))<|Hx<|.jb (some 127) 10<|.ex fun (x19:Bool)=>ao (.jn ⟨[(0,(.p k0 0)),(3,(.p ⟨dp,3⟩ 0)),(5,(I a0.Kind)),(8,(.b r3.2.2)),(82,(.b x19))],[(3,(ah a0))],ad hp k0 (aq c0)⟩)<|.nil))) fun L=>ba h (fun h17 h=>DX h17<|aP h (iO dp hp k0 hk_k0 hz c0 a0 r3 x5 x7 u7_1 u8_1 u9_1 true [.sk,.sk,.sk,.sk,.sk,.sk,.sk,.sk,(W w 0),(W w 1),(W w 2),(W w 3),(W w 4),(W w 5),(W w 6),(W w 7),(W w 8),(W w 9),(W w 10),(W w 11),(W w 12),(W w 13),(W w 14),(W w 15),(W w 16),(W w 17),(W w 18),(W w 19),(W w 20),(W w 21),(W w 22),(W w 23),(W w 24),(W w 25)]) fun x18 h=>L h) (fun h17 h=>DW h17<|bZ h (fun h18 h=>ai (g1 (congrArg not (decide_eq_true h18)))<|ai (g1 (congrArg not (decide_eq_true h18)))<|ai (g1 (congrArg not (decide_eq_true h18)))<|ai (g1 (congrArg not (decide_eq_true h18)))<|ai (g0 h17)<|ai (congrArg not (decide_eq_true h18))<|ai h17<|aP h (iO dp hp k0 hk_k0 hz c0 a0 r3 x5 x7 u7_1 u8_1 u9_1 false [(.b false),.sk,.sk,.sk,.sk,(.b (!(decide (7≤a0.Kind)))),(.b (!(decide (7≤a0.Kind)))),(.b (decide (7≤a0.Kind))),(W w 0),(W w 1),(W w 2),(W w 3),(W w 4),(W w 5),(W w 6),(W w 7),(W w 8),(W w 9),(W w 10),(W w 11),(W w 12),(W w 13),(W w 14),(W w 15),(W w 16),(W w 17),(W w 18),(W w 19),(W w 20),(W w 21),(W w 22),(W w 23),(W w 24),(W w 25)]) fun x19 h=>L h) (fun h18 h=>yB (congrArg not (decide_eq_false h18))<|ai (rN dp)<|ai (g1 (congrArg not (decide_eq_false h18)))<|ai (aL aH a0.Then)<|ai (g1 (congrArg not (decide_eq_false h18)))<|ai (g0 h17)<|ai (congrArg not (decide_eq_false h18))<|ai h17<|aP h (iO dp hp k0 hk_k0 hz c0 a0 r3 x5 x7 u7_1 u8_1 u9_1 (decide (0<(a0.Then.length:Int))) [(.b (decide (0<(a0.Then.length:Int)))),(.b (decide (0<(a0.Then.length:Int)))),(I (a0.Then.length:Int)),(.l 88 (a0.Then.map aH)),(.p ⟨dp,3⟩ 7),(.b (!(decide (7≤a0.Kind)))),(.b (!(decide (7≤a0.Kind)))),(.b (decide (7≤a0.Kind))),(W w 0),(W w 1),(W w 2),(W w 3),(W w 4),(W w 5),(W w 6),(W w 7),(W w 8),(W w 9),(W w 10),(W w 11),(W w 12),(W w 13),(W w 14),(W w 15),(W w 16),(W w 17),(W w 18),(W w 19),(W w 20),(W w 21),(W w 22),(W w 23),(W w 24),(W w 25)]) fun x19 h=>L h))
def oz:List dQ:=(gM 107 106)::⟨some 108,.mv 5,some ⟨107,false⟩,false⟩::⟨some 109,.bo .neq false 108 (kI 2),some ⟨107,false⟩,false⟩::⟨some 110,.mv 109,some ⟨107,false⟩,false⟩::⟨some 111,.fa 6 3,some ⟨110,true⟩,false⟩::⟨some 112,.ld none 111,some ⟨110,true⟩,false⟩::⟨some 113,.ln false 112,some ⟨110,true⟩,false⟩::⟨some 114,.bo .gtr false 113 (kI 0),some ⟨110,true⟩,false⟩::⟨some 115,.pk 110 114 (.c (.b false)),some ⟨107,false⟩,false⟩::(gp 116 (.pk 107 (.c (.b true)) 115))::oy
def dz(r3:(Bool×Bool×Bool))(x5:Bool)(x7:Bool)(u7_1:Bool)(u8_1:Bool):Option Bool:=
 if u8_1=true then
  (dy c0 a0 r3 x5 x7 u7_1 u8_1 true).bind fun (x16:Bool)=>
  some x16
 else
  if (a0.Kind !=2)=true then
   (dy c0 a0 r3 x5 x7 u7_1 u8_1 (decide (0<(a0.Args.length:Int)))).bind fun (x17:Bool)=>
   some x17
  else
   (dy c0 a0 r3 x5 x7 u7_1 u8_1 false).bind fun (x17:Bool)=>
   some x17
abbrev uI(c0:Checker)(a0:Stmt)(r3:(Bool×Bool×Bool))(x5:Bool)(x7:Bool)(u7_1:Bool)(u8_1:Bool)(x:Bool):St:=⟨[(0,(.p k0 0)),(3,(.p ⟨dp,3⟩ 0)),(5,(I a0.Kind)),(8,(.b r3.2.2)),(82,(.b x))],[(3,(ah a0))],ad hp k0 (aq c0)⟩
theorem jB(hk_k0:k0.dp<dp)(hz:aO dp hp)(c0:Checker)(a0:Stmt)(r3:(Bool×Bool×Bool))(x5:Bool)(x7:Bool)(u7_1:Bool)(u8_1:Bool)(w:List AV)(x:Bool)(h:dz c0 a0 r3 x5 x7 u7_1 u8_1=some x):mg G Ω0 ⟨dp,true⟩ [0,3,5,8,82] [0,3] oz ⟨[(106,(.b u8_1)),(105,(W w 0)),(104,(W w 1)),(103,(W w 2)),(102,(W w 3)),(101,(W w 4)),(100,(W w 5)),(99,(.b u7_1)),(98,(.b u7_1)),(97,(W w 6)),(96,(W w 7)),(95,(W w 8)),(94,(W w 9)),(93,(W w 10)),(92,(W w 11)),(91,(W w 12)),(90,(W w 13)),(89,(W w 14)),(88,(W w 15)),(87,(W w 16)),(86,(W w 17)),(85,(.b (!r3.1))),(84,(.b (!r3.1))),(83,(.b r3.1)),(0,(.p k0 0)),(3,(.p ⟨dp,3⟩ 0)),(5,(I a0.Kind)),(6,(.b r3.1)),(7,(.b r3.2.1)),(8,(.b r3.2.2)),(9,(.b (decide (7≤a0.Kind)))),(10,(.b x5)),(48,(.b x7))],[(3,(ah a0))],ad hp k0 (aq c0)⟩=some (uI dp hp k0 c0 a0 r3 x5 x7 u7_1 u8_1 x):=
 lT (.or (DY<|.jb (some 117) 20<|.ex fun (x16:Bool)=>ao (.jn ⟨[(0,(.p k0 0)),(3,(.p ⟨dp,3⟩ 0)),(5,(I a0.Kind)),(8,(.b r3.2.2)),(82,(.b x16))],[(3,(ah a0))],ad hp k0 (aq c0)⟩)<|.nil) (dF<|.or (tE<|ao (.i (a0.Args.length:Int))<|Hx<|.jb (some 117) 20<|.ex fun (x17:Bool)=>ao (.jn ⟨[(0,(.p k0 0)),(3,(.p ⟨dp,3⟩ 0)),(5,(I a0.Kind)),(8,(.b r3.2.2)),(82,(.b x17))],[(3,(ah a0))],ad hp k0 (aq c0)⟩)<|.nil) (LZ<|.jb (some 117) 20<|.ex fun (x17:Bool)=>ao (.jn ⟨[(0,(.p k0 0)),(3,(.p ⟨dp,3⟩ 0)),(5,(I a0.Kind)),(8,(.b r3.2.2)),(82,(.b x17))],[(3,(ah a0))],ad hp k0 (aq c0)⟩)<|.nil))) fun L=>ba h (fun h15 h=>DX h15<|aP h (jA dp hp k0 hk_k0 hz c0 a0 r3 x5 x7 u7_1 u8_1 true [.sk,.sk,.sk,.sk,.sk,.sk,.sk,.sk,(W w 0),(W w 1),(W w 2),(W w 3),(W w 4),(W w 5),(W w 6),(W w 7),(W w 8),(W w 9),(W w 10),(W w 11),(W w 12),(W w 13),(W w 14),(W w 15),(W w 16),(W w 17)]) fun x16 h=>L h) (fun h15 h=>DW h15<|ba h (fun h16 h=>yB h16<|ai (rN dp)<|ai (g1 h16)<|ai (aL aR a0.Args)<|ai (g1 h16)<|ai (g0 h15)<|ai h16<|ai h15<|aP h (jA dp hp k0 hk_k0 hz c0 a0 r3 x5 x7 u7_1 u8_1 (decide (0<(a0.Args.length:Int))) [(.b (decide (0<(a0.Args.length:Int)))),(.b (decide (0<(a0.Args.length:Int)))),(I (a0.Args.length:Int)),(.l 86 (a0.Args.map aR)),(.p ⟨dp,3⟩ 6),(.b (a0.Kind !=2)),(.b (a0.Kind !=2)),(I a0.Kind),(W w 0),(W w 1),(W w 2),(W w 3),(W w 4),(W w 5),(W w 6),(W w 7),(W w 8),(W w 9),(W w 10),(W w 11),(W w 12),(W w 13),(W w 14),(W w 15),(W w 16),(W w 17)]) fun x17 h=>L h) (fun h16 h=>ai (g1 h16)<|ai (g1 h16)<|ai (g1 h16)<|ai (g1 h16)<|ai (g0 h15)<|ai h16<|ai h15<|aP h (jA dp hp k0 hk_k0 hz c0 a0 r3 x5 x7 u7_1 u8_1 false [(.b false),.sk,.sk,.sk,.sk,(.b (a0.Kind !=2)),(.b (a0.Kind !=2)),(I a0.Kind),(W w 0),(W w 1),(W w 2),(W w 3),(W w 4),(W w 5),(W w 6),(W w 7),(W w 8),(W w 9),(W w 10),(W w 11),(W w 12),(W w 13),(W w 14),(W w 15),(W w 16),(W w 17)]) fun x17 h=>L h))
def oA:List dQ:=(gM 99 98)::⟨some 100,.mv 8,some ⟨99,false⟩,false⟩::⟨some 101,.no 100,some ⟨99,false⟩,false⟩::⟨some 102,.mv 101,some ⟨99,false⟩,false⟩::⟨some 103,.mv 10,some ⟨102,true⟩,false⟩::⟨some 104,.no 103,some ⟨102,true⟩,false⟩::⟨some 105,.pk 102 104 (.c (.b false)),some ⟨99,false⟩,false⟩::(gp 106 (.pk 99 (.c (.b true)) 105))::oz
def cz(r3:(Bool×Bool×Bool))(x5:Bool)(x7:Bool)(u7_1:Bool):Option Bool:=
 if u7_1=true then
  (dz c0 a0 r3 x5 x7 u7_1 true).bind fun (x14:Bool)=>
  some x14
 else
  if r3.2.2=true then
   (dz c0 a0 r3 x5 x7 u7_1 false).bind fun (x15:Bool)=>
   some x15
  else
   (dz c0 a0 r3 x5 x7 u7_1 (!x5)).bind fun (x15:Bool)=>
   some x15
abbrev uJ(c0:Checker)(a0:Stmt)(r3:(Bool×Bool×Bool))(x5:Bool)(x7:Bool)(u7_1:Bool)(x:Bool):St:=⟨[(0,(.p k0 0)),(3,(.p ⟨dp,3⟩ 0)),(5,(I a0.Kind)),(8,(.b r3.2.2)),(82,(.b x))],[(3,(ah a0))],ad hp k0 (aq c0)⟩
theorem ed(hk_k0:k0.dp<dp)(hz:aO dp hp)(c0:Checker)(a0:Stmt)(r3:(Bool×Bool×Bool))(x5:Bool)(x7:Bool)(u7_1:Bool)(w:List AV)(x:Bool)(h:cz c0 a0 r3 x5 x7 u7_1=some x):mg G Ω0 ⟨dp,true⟩ [0,3,5,8,82] [0,3] oA ⟨[(98,(.b u7_1)),(97,(W w 0)),(96,(W w 1)),(95,(W w 2)),(94,(W w 3)),(93,(W w 4)),(92,(W w 5)),(91,(W w 6)),(90,(W w 7)),(89,(W w 8)),(88,(W w 9)),(87,(W w 10)),(86,(W w 11)),(85,(.b (!r3.1))),(84,(.b (!r3.1))),(83,(.b r3.1)),(0,(.p k0 0)),(3,(.p ⟨dp,3⟩ 0)),(5,(I a0.Kind)),(6,(.b r3.1)),(7,(.b r3.2.1)),(8,(.b r3.2.2)),(9,(.b (decide (7≤a0.Kind)))),(10,(.b x5)),(48,(.b x7))],[(3,(ah a0))],ad hp k0 (aq c0)⟩=some (uJ dp hp k0 c0 a0 r3 x5 x7 u7_1 x):=
 lT (.or (DY<|.jb (some 107) 30<|.ex fun (x14:Bool)=>ao (.jn ⟨[(0,(.p k0 0)),(3,(.p ⟨dp,3⟩ 0)),(5,(I a0.Kind)),(8,(.b r3.2.2)),(82,(.b x14))],[(3,(ah a0))],ad hp k0 (aq c0)⟩)<|.nil) (dF<|.or (bf<|bf<|bt<|bf<|bf<|.jb (some 107) 30<|.ex fun (x15:Bool)=>ao (.jn ⟨[(0,(.p k0 0)),(3,(.p ⟨dp,3⟩ 0)),(5,(I a0.Kind)),(8,(.b r3.2.2)),(82,(.b x15))],[(3,(ah a0))],ad hp k0 (aq c0)⟩)<|.nil) (Hw<|.jb (some 107) 30<|.ex fun (x15:Bool)=>ao (.jn ⟨[(0,(.p k0 0)),(3,(.p ⟨dp,3⟩ 0)),(5,(I a0.Kind)),(8,(.b r3.2.2)),(82,(.b x15))],[(3,(ah a0))],ad hp k0 (aq c0)⟩)<|.nil))) fun L=>ba h (fun h13 h=>DX h13<|aP h (jB dp hp k0 hk_k0 hz c0 a0 r3 x5 x7 u7_1 true [.sk,.sk,.sk,.sk,.sk,.sk,(W w 0),(W w 1),(W w 2),(W w 3),(W w 4),(W w 5),(W w 6),(W w 7),(W w 8),(W w 9),(W w 10),(W w 11)]) fun x14 h=>L h) (fun h13 h=>DW h13<|ba h (fun h14 h=>yB (congrArg not h14)<|ai (g0 h13)<|ai (congrArg not h14)<|ai h13<|aP h (jB dp hp k0 hk_k0 hz c0 a0 r3 x5 x7 u7_1 false [(.b false),.sk,.sk,(.b (!r3.2.2)),(.b (!r3.2.2)),(.b r3.2.2),(W w 0),(W w 1),(W w 2),(W w 3),(W w 4),(W w 5),(W w 6),(W w 7),(W w 8),(W w 9),(W w 10),(W w 11)]) fun x15 h=>L h) (fun h14 h=>yB (congrArg not h14)<|ai (g0 h13)<|ai (congrArg not h14)<|ai h13<|aP h (jB dp hp k0 hk_k0 hz c0 a0 r3 x5 x7 u7_1 (!x5) [(.b (!x5)),(.b (!x5)),(.b x5),(.b (!r3.2.2)),(.b (!r3.2.2)),(.b r3.2.2),(W w 0),(W w 1),(W w 2),(W w 3),(W w 4),(W w 5),(W w 6),(W w 7),(W w 8),(W w 9),(W w 10),(W w 11)]) fun x15 h=>L h))
def uK:List dQ:=(gM 83 6)::(gp 84 (.no 83))::(gM 85 84)::⟨some 86,.fa 1 3,some ⟨85,true⟩,false⟩::⟨some 87,.ld none 86,some ⟨85,true⟩,false⟩::⟨some 88,.bo .neq false 87 (kI 0),some ⟨85,true⟩,false⟩::(gp 89 (.pk 85 88 (.c (.b false))))::(gM 90 89)::⟨some 91,.mv 7,some ⟨90,false⟩,false⟩::⟨some 92,.no 91,some ⟨90,false⟩,false⟩::⟨some 93,.mv 92,some ⟨90,false⟩,false⟩::⟨some 94,.fa 2 3,some ⟨93,true⟩,false⟩::⟨some 95,.ld none 94,some ⟨93,true⟩,false⟩::⟨some 96,.bo .neq false 95 (kI 0),some ⟨93,true⟩,false⟩::⟨some 97,.pk 93 96 (.c (.b false)),some ⟨90,false⟩,false⟩::(gp 98 (.pk 90 (.c (.b true)) 97))::oA
def fP(r3:(Bool×Bool×Bool))(x5:Bool)(x7:Bool):Option Bool:=
 if r3.1=true then
  if r3.2.1=true then
   (cz c0 a0 r3 x5 x7 false).bind fun (x12:Bool)=>
   some x12
  else
   (cz c0 a0 r3 x5 x7 (a0.Other !=0)).bind fun (x12:Bool)=>
   some x12
 else
  if (a0.Var !=0)=true then
   (cz c0 a0 r3 x5 x7 true).bind fun (x12:Bool)=>
   some x12
  else
   if r3.2.1=true then
    (cz c0 a0 r3 x5 x7 false).bind fun (x13:Bool)=>
    some x13
   else
    (cz c0 a0 r3 x5 x7 (a0.Other !=0)).bind fun (x13:Bool)=>
    some x13
abbrev uL(c0:Checker)(a0:Stmt)(r3:(Bool×Bool×Bool))(x5:Bool)(x7:Bool)(x:Bool):St:=⟨[(0,(.p k0 0)),(3,(.p ⟨dp,3⟩ 0)),(5,(I a0.Kind)),(8,(.b r3.2.2)),(82,(.b x))],[(3,(ah a0))],ad hp k0 (aq c0)⟩
theorem tS(hk_k0:k0.dp<dp)(hz:aO dp hp)(c0:Checker)(a0:Stmt)(r3:(Bool×Bool×Bool))(x5:Bool)(x7:Bool)(x:Bool)(h:fP c0 a0 r3 x5 x7=some x):mg G Ω0 ⟨dp,true⟩ [0,3,5,8,82] [0,3] uK ⟨[(0,(.p k0 0)),(3,(.p ⟨dp,3⟩ 0)),(5,(I a0.Kind)),(6,(.b r3.1)),(7,(.b r3.2.1)),(8,(.b r3.2.2)),(9,(.b (decide (7≤a0.Kind)))),(10,(.b x5)),(48,(.b x7))],[(3,(ah a0))],ad hp k0 (aq c0)⟩=some (uL dp hp k0 c0 a0 r3 x5 x7 x):=
 lT (.or (bf<|bf<|bf<|bf<|bt<|bt<|bt<|.or (IE<|.jb (some 99) 38<|.ex fun (x12:Bool)=>ao (.jn ⟨[(0,(.p k0 0)),(3,(.p ⟨dp,3⟩ 0)),(5,(I a0.Kind)),(8,(.b r3.2.2)),(82,(.b x12))],[(3,(ah a0))],ad hp k0 (aq c0)⟩)<|.nil) (Fi<|.jb (some 99) 38<|.ex fun (x12:Bool)=>ao (.jn ⟨[(0,(.p k0 0)),(3,(.p ⟨dp,3⟩ 0)),(5,(I a0.Kind)),(8,(.b r3.2.2)),(82,(.b x12))],[(3,(ah a0))],ad hp k0 (aq c0)⟩)<|.nil)) (p9<|.or (DY<|.jb (some 99) 38<|.ex fun (x12:Bool)=>ao (.jn ⟨[(0,(.p k0 0)),(3,(.p ⟨dp,3⟩ 0)),(5,(I a0.Kind)),(8,(.b r3.2.2)),(82,(.b x12))],[(3,(ah a0))],ad hp k0 (aq c0)⟩)<|.nil) (dF<|.or (IE<|.jb (some 99) 38<|.ex fun (x13:Bool)=>ao (.jn ⟨[(0,(.p k0 0)),(3,(.p ⟨dp,3⟩ 0)),(5,(I a0.Kind)),(8,(.b r3.2.2)),(82,(.b x13))],[(3,(ah a0))],ad hp k0 (aq c0)⟩)<|.nil) (Fi<|.jb (some 99) 38<|.ex fun (x13:Bool)=>ao (.jn ⟨[(0,(.p k0 0)),(3,(.p ⟨dp,3⟩ 0)),(5,(I a0.Kind)),(8,(.b r3.2.2)),(82,(.b x13))],[(3,(ah a0))],ad hp k0 (aq c0)⟩)<|.nil)))) fun L=>ba h (fun h10 h=>ai (g1 (congrArg not h10))<|ai (g1 (congrArg not h10))<|ai (g1 (congrArg not h10))<|ai (congrArg not h10)<|ai hf<|ai hf<|ai hf<|ba h (fun h11 h=>ai (g1 (congrArg not h11))<|ai (g1 (congrArg not h11))<|ai (g1 (congrArg not h11))<|ai hf<|ai (congrArg not h11)<|ai ff<|aP h (ed dp hp k0 hk_k0 hz c0 a0 r3 x5 x7 false [(.b false),.sk,.sk,.sk,(.b (!r3.2.1)),(.b (!r3.2.1)),(.b r3.2.1),(.b false),(.b false),.sk,.sk,.sk]) fun x12 h=>L h) (fun h11 h=>yB (congrArg not h11)<|ai (rN dp)<|ai (g1 (congrArg not h11))<|ai hf<|ai (congrArg not h11)<|ai ff<|aP h (ed dp hp k0 hk_k0 hz c0 a0 r3 x5 x7 (a0.Other !=0) [(.b (a0.Other !=0)),(.b (a0.Other !=0)),(I a0.Other),(.p ⟨dp,3⟩ 2),(.b (!r3.2.1)),(.b (!r3.2.1)),(.b r3.2.1),(.b false),(.b false),.sk,.sk,.sk]) fun x12 h=>L h)) (fun h10 h=>yB (congrArg not h10)<|ai (rN dp)<|Hv (congrArg not h10)<|ba h (fun h11 h=>DX h11<|aP h (ed dp hp k0 hk_k0 hz c0 a0 r3 x5 x7 true [.sk,.sk,.sk,.sk,.sk,.sk,.sk,(.b (a0.Var !=0)),(.b (a0.Var !=0)),(.b (a0.Var !=0)),(I a0.Var),(.p ⟨dp,3⟩ 1)]) fun x12 h=>L h) (fun h11 h=>DW h11<|ba h (fun h12 h=>Ht (congrArg not h12)<|ai (g0 h11)<|ai (congrArg not h12)<|ai h11<|aP h (ed dp hp k0 hk_k0 hz c0 a0 r3 x5 x7 false [(.b false),.sk,.sk,.sk,(.b (!r3.2.1)),(.b (!r3.2.1)),(.b r3.2.1),(.b (a0.Var !=0)),(.b (a0.Var !=0)),(.b (a0.Var !=0)),(I a0.Var),(.p ⟨dp,3⟩ 1)]) fun x13 h=>L h) (fun h12 h=>yB (congrArg not h12)<|ai (rN dp)<|ai (g1 (congrArg not h12))<|ai (g0 h11)<|ai (congrArg not h12)<|ai h11<|aP h (ed dp hp k0 hk_k0 hz c0 a0 r3 x5 x7 (a0.Other !=0) [(.b (a0.Other !=0)),(.b (a0.Other !=0)),(I a0.Other),(.p ⟨dp,3⟩ 2),(.b (!r3.2.1)),(.b (!r3.2.1)),(.b r3.2.1),(.b (a0.Var !=0)),(.b (a0.Var !=0)),(.b (a0.Var !=0)),(I a0.Var),(.p ⟨dp,3⟩ 1)]) fun x13 h=>L h)))
def eT(v0_173:Nat):Option (Nat⊕(Int⊕(Nat×Bool))):=
 if (v0_173:Int)<(a0.Args.length:Int) then
  (a0.Args[v0_173]?).bind fun (y24:aC)=>
  (jt y24 (c0.p.Vars.length:Int)).bind fun (r26:Int)=>
  if (r26 !=0)=true then
   some (.inr (.inl r26))
  else
   if IntKind.i64.wrap ((v0_173:Int)+1)=((v0_173+1:Nat):Int) then
    some (.inl (v0_173+1))
   else none
 else
  some (.inr (.inr (v0_173,decide ((v0_173:Int)<(a0.Args.length:Int)))))
abbrev vF(dp:Nat)(hp:HP)(k0:Key)(c0:Checker)(a0:Stmt)(v:Nat):St:=⟨[(0,(.p k0 0)),(171,(.l 86 (a0.Args.map aR))),(172,(I (a0.Args.length:Int))),(173,(I (v:Int)))],[],ad hp k0 (aq c0)⟩
abbrev vG(dp:Nat)(hp:HP)(k0:Key)(c0:Checker)(a0:Stmt)(x:(Int⊕(Nat×Bool))):aQ×St:=match x with | .inl z1=>(.ret,⟨[(4,(I z1))],[],ad hp k0 (aq c0)⟩) | .inr (z1,z2)=>((.ex 1),⟨[(0,(.p k0 0)),(171,(.l 86 (a0.Args.map aR))),(172,(I (a0.Args.length:Int))),(173,(I (z1:Int))),(174,(.b z2))],[],ad hp k0 (aq c0)⟩)
theorem uM(hk_k0:k0.dp<dp)(hz:aO dp hp)(c0:Checker)(a0:Stmt)(v0_173:Nat)(o:Nat⊕(Int⊕(Nat×Bool)))(h:eT c0 a0 v0_173=some o):bG ⟨dp,true⟩ Jt (vF dp hp k0 c0 a0) (vG dp hp k0 c0 a0) v0_173 o:=
 bP (.or (bt<|ao (.n v0_173)<|.ex fun (y24:aC)=>ao (.v (.a (bA y24)))<|Hx<|ao (.l (aq c0))<|ao (.i (c0.p.Vars.length:Int))<|xI fun r26=>oN (ao (.i ((v0_173+1:Nat):Int))<|.nil)) (bf<|.nil)) fun L=>bZ h (fun h23 h=>ai (decide_eq_true h23)<|ai (rI v0_173)<|aZ h fun y24 h25 h=>ai (jr aR h25 (eN _))<|ai ((by simp [bA,AV.aG,AV.aI,AV.deep,AV.bz,aj hk_k0,Nat.le_of_lt hk_k0]):(([(176,(.a (bA y24))),(175,(.e (.a (bA y24)) 0)),(0,(.p k0 0)),(171,(.l 86 (a0.Args.map aR))),(172,(I (a0.Args.length:Int))),(173,(I (v0_173:Int)))]:List (Nat×AV)).all (fun y=>y.2.aG ⟨dp,13⟩)&&([]:List (Nat×List AV)).all (fun y=>AV.aI ⟨dp,13⟩ y.2))=true)<|ai (rfl:dp=dp)<|ai (rN dp)<|ai tt<|ai (rN dp)<|ai tt<|ai (rN dp)<|oD<|ai (Nat.ne_of_lt hk_k0)<|ai (aN hp k0 (aq c0))<|ai tt<|ai (aL bm c0.p.Vars)<|ai tt<|aP h (qz y24 (c0.p.Vars.length:Int)) fun r26 h=>ba h (fun h28 h=>ai h28<|L h) (fun h28 h=>ai h28<|aW h fun w29 h=>ai w29<|L h)) (fun h23 h=>ai (decide_eq_false h23)<|L h)
def eE:Option (Int⊕Unit):=
 (lp (fun v=>eT c0 a0 v) 0).bind fun (x23:(Int⊕(Nat×Bool)))=>match x23 with
 | .inl ya_24=>
  some (.inl ya_24)
 | .inr yb_24=>
  some (.inr ())
abbrev uN(dp:Nat)(hp:HP)(k0:Key)(c0:Checker)(a0:Stmt)(x:(Int⊕Unit)):aQ×St:=match x with | .inl z1=>(.ret,⟨[(4,(I z1))],[],ad hp k0 (aq c0)⟩) | .inr ()=>(.ret,⟨[(4,(I 0))],[],ad hp k0 (aq c0)⟩)
theorem nm(hk_k0:k0.dp<dp)(hz:aO dp hp)(c0:Checker)(a0:Stmt)(x:(Int⊕Unit))(h:eE c0 a0=some x):run G Ω0 ⟨dp,true⟩ Ju ⟨[(0,(.p k0 0)),(3,(.p ⟨dp,3⟩ 0))],[(3,(ah a0))],ad hp k0 (aq c0)⟩=some (uN dp hp k0 c0 a0 x):=
 va (bt<|ao (.i (a0.Args.length:Int))<|.or (.ex fun (ya_24:Int)=>ao (.lp .ret ⟨[(4,(I ya_24))],[],ad hp k0 (aq c0)⟩)<|.nil) (.ex fun (yb_24:(Nat×Bool))=>ao (.lp (.ex 1) ⟨[(0,(.p k0 0)),(171,(.l 86 (a0.Args.map aR))),(172,(I (a0.Args.length:Int))),(173,(I (yb_24.1:Int))),(174,(.b yb_24.2))],[],ad hp k0 (aq c0)⟩)<|.nil)) fun L=>ai (rN dp)<|ai (aL aR a0.Args)<|cZ h (ek (uM dp hp k0 hk_k0 hz c0 a0) 0) (fun ya_24 h=>L h) (fun yb_24 h=>L h)
def eF(r3:(Bool×Bool×Bool)):Option (Int⊕Unit):=
 if r3.2.2=true then
  (jt a0.Expr (c0.p.Vars.length:Int)).bind fun (r20:Int)=>
  if (r20 !=0)=true then
   some (.inl r20)
  else
   (eE c0 a0).bind fun (x23:(Int⊕Unit))=>match x23 with
   | .inl ya_24=>
    some (.inl ya_24)
   | .inr yb_24=>
    some (.inr ())
 else
  (eE c0 a0).bind fun (x20:(Int⊕Unit))=>match x20 with
  | .inl ya_21=>
   some (.inl ya_21)
  | .inr yb_21=>
   some (.inr ())
abbrev uO(dp:Nat)(hp:HP)(k0:Key)(c0:Checker)(a0:Stmt)(r3:(Bool×Bool×Bool))(x:(Int⊕Unit)):aQ×St:=match x with | .inl z1=>(.ret,⟨[(4,(I z1))],[],ad hp k0 (aq c0)⟩) | .inr ()=>(.ret,⟨[(4,(I 0))],[],ad hp k0 (aq c0)⟩)
theorem np(hk_k0:k0.dp<dp)(hz:aO dp hp)(c0:Checker)(a0:Stmt)(r3:(Bool×Bool×Bool))(x:(Int⊕Unit))(h:eF c0 a0 r3=some x):run G Ω0 ⟨dp,true⟩ Jv ⟨[(0,(.p k0 0)),(3,(.p ⟨dp,3⟩ 0)),(8,(.b r3.2.2))],[(3,(ah a0))],ad hp k0 (aq c0)⟩=some (uO dp hp k0 c0 a0 r3 x):=
 va (.or (bt<|bt<|bf<|ao (.l (aq c0))<|ao (.i (c0.p.Vars.length:Int))<|xI fun r20=>oN (.fb<|.or (.ex fun (ya_24:Int)=>ao (.fr .ret ⟨[(4,(I ya_24))],[],ad hp k0 (aq c0)⟩)<|.nil) (.ex fun (yb_24:Unit)=>ao (.fr .ret ⟨[(4,(I 0))],[],ad hp k0 (aq c0)⟩)<|.nil))) (bf<|.fb<|.or (.ex fun (ya_21:Int)=>ao (.fr .ret ⟨[(4,(I ya_21))],[],ad hp k0 (aq c0)⟩)<|.nil) (.ex fun (yb_21:Unit)=>ao (.fr .ret ⟨[(4,(I 0))],[],ad hp k0 (aq c0)⟩)<|.nil))) fun L=>ba h (fun h19 h=>Fg h19<|ai (rN dp)<|oD<|ai (Nat.ne_of_lt hk_k0)<|ai (aN hp k0 (aq c0))<|ai tt<|ai (aL bm c0.p.Vars)<|ai tt<|aP h (qz a0.Expr (c0.p.Vars.length:Int)) fun r20 h=>ba h (fun h22 h=>ai h22<|L h) (fun h22 h=>ai h22<|cZ h (nm dp hp k0 hk_k0 hz c0 a0) (fun ya_24 h=>L h) (fun yb_24 h=>L h))) (fun h19 h=>ai h19<|cZ h (nm dp hp k0 hk_k0 hz c0 a0) (fun ya_21 h=>L h) (fun yb_21 h=>L h))
abbrev xh(dp:Nat)(hp:HP)(k0:Key)(c0:Checker)(a0:Stmt)(r:Int):aX×HP:=(.ret (I r),ad hp k0 (aq c0))
def iP:Option Int:=
 if a0.Kind<1 then
  some 7
 else
  if 8<a0.Kind then
   some 7
  else
   (pD a0.Kind).bind fun (r3:(Bool×Bool×Bool))=>
   (fN c0 a0 r3).bind fun (x5:Bool)=>
   (fO c0 a0 r3 x5).bind fun (x7:Bool)=>
   if x7=true then
    some 5
   else
    (fP c0 a0 r3 x5 x7).bind fun (x10:Bool)=>
    if x10=true then
     some 1
    else
     if (a0.Kind==2)=true then
      (cQ a0.Other).bind fun (j14:Nat)=>
      (c0.p.Funcs[j14]?).bind fun (y16:Func)=>
      if ((a0.Args.length:Int) !=(y16.Params.length:Int))=true then
       some 1
      else
       (eF c0 a0 r3).bind fun (x19:(Int⊕Unit))=>match x19 with
       | .inl ya_20=>
        some ya_20
       | .inr yb_20=>
        some 0
     else
      (eF c0 a0 r3).bind fun (x14:(Int⊕Unit))=>match x14 with
      | .inl ya_15=>
       some ya_15
      | .inr yb_15=>
       some 0
theorem uP(hk_k0:k0.dp<dp)(hz:aO dp hp)(c0:Checker)(a0:Stmt)(r:Int)(h:iP c0 a0=some r):call G Ω0 ⟨dp,true⟩ 138 [(.p k0 0),(.a (ah a0))] (ad hp k0 (aq c0))=some (xh dp hp k0 c0 a0 r):=
 aF ZK (bt<|.or (bf<|bf<|bt<|bt<|.nil) (bt<|bt<|bf<|oN (.ex fun (r3:(Bool×Bool×Bool))=>ao (.v (.tp [(.b r3.1),(.b r3.2.1),(.b r3.2.2)]))<|.jb (some 31) 17<|.ex fun (x5:Bool)=>ao (.jn ⟨[(0,(.p k0 0)),(3,(.p ⟨dp,3⟩ 0)),(5,(I a0.Kind)),(6,(.b r3.1)),(7,(.b r3.2.1)),(8,(.b r3.2.2)),(9,(.b (decide (7≤a0.Kind)))),(10,(.b x5))],[(3,(ah a0))],ad hp k0 (aq c0)⟩)<|.jb (some 49) 33<|.ex fun (x7:Bool)=>ao (.jn ⟨[(0,(.p k0 0)),(3,(.p ⟨dp,3⟩ 0)),(5,(I a0.Kind)),(6,(.b r3.1)),(7,(.b r3.2.1)),(8,(.b r3.2.2)),(9,(.b (decide (7≤a0.Kind)))),(10,(.b x5)),(48,(.b x7))],[(3,(ah a0))],ad hp k0 (aq c0)⟩)<|oN (.jb (some 83) 54<|.ex fun (x10:Bool)=>ao (.jn ⟨[(0,(.p k0 0)),(3,(.p ⟨dp,3⟩ 0)),(5,(I a0.Kind)),(8,(.b r3.2.2)),(82,(.b x10))],[(3,(ah a0))],ad hp k0 (aq c0)⟩)<|oN (.or (tE<|ao (.i (a0.Args.length:Int))<|bt<|bt<|bt<|bt<|bt<|bf<|ao (.l (aq c0))<|tE<|xN fun j14=>.ex fun (y16:Func)=>ao (.v (.a (ct y16)))<|dF<|ao (.i (y16.Params.length:Int))<|dE<|oN (.fb<|.or (.ex fun (ya_20:Int)=>ao (.fr .ret ⟨[(4,(I ya_20))],[],ad hp k0 (aq c0)⟩)<|.nil) (.ex fun (yb_20:Unit)=>ao (.fr .ret ⟨[(4,(I 0))],[],ad hp k0 (aq c0)⟩)<|.nil))) (bf<|bf<|bf<|bf<|bf<|bf<|bf<|bf<|bf<|bf<|bf<|bf<|bf<|bf<|bf<|bf<|bf<|.fb<|.or (.ex fun (ya_15:Int)=>ao (.fr .ret ⟨[(4,(I ya_15))],[],ad hp k0 (aq c0)⟩)<|.nil) (.ex fun (yb_15:Unit)=>ao (.fr .ret ⟨[(4,(I 0))],[],ad hp k0 (aq c0)⟩)<|.nil))))))) fun L=>ai ((by simp [ah,AV.aG,AV.aI,AV.deep,AV.bz,aj hk_k0,Nat.le_of_lt hk_k0]):(((.a (ah a0)):AV).deep dp&&(([(0,(.p k0 0)),(1,(.a (ah a0)))]:List (Nat×AV)).all (fun y=>y.2.aG ⟨dp,3⟩)&&([]:List (Nat×List AV)).all (fun y=>AV.aI ⟨dp,3⟩ y.2)))=true)<|ai (rN dp)<|bZ h (fun h1 h=>ai (g0 (decide_eq_true h1))<|ai (g0 (decide_eq_true h1))<|ai (decide_eq_true h1)<|ai tt<|L h) (fun h1 h=>Fh (decide_eq_false h1)<|bZ h (fun h2 h=>ai (decide_eq_true h2)<|L h) (fun h2 h=>ai (decide_eq_false h2)<|aP h (AN a0.Kind) fun r3 h=>aP h (tO dp hp k0 hk_k0 hz c0 a0 r3) fun x5 h=>ai tt<|aP h (tP dp hp k0 hk_k0 hz c0 a0 r3 x5) fun x7 h=>ba h (fun h9 h=>ai h9<|L h) (fun h9 h=>ai h9<|aP h (tS dp hp k0 hk_k0 hz c0 a0 r3 x5 x7) fun x10 h=>ba h (fun h12 h=>ai h12<|L h) (fun h12 h=>AA h12<|ba h (fun h13 h=>ai (g1 h13)<|ai tt<|ai (g1 h13)<|ai (rN dp)<|ai tt<|ai (g1 h13)<|ai (aL aR a0.Args)<|ai tt<|ai (g1 h13)<|ai tt<|ai (g1 h13)<|ai tt<|ai (g1 h13)<|ai tt<|ai (g1 h13)<|ai tt<|ai (g1 h13)<|ai (Nat.ne_of_lt hk_k0)<|ai (aN hp k0 (aq c0))<|ai tt<|ai (g1 h13)<|ai tt<|ai (g1 h13)<|ai (rN dp)<|ai tt<|ai (g1 h13)<|eS h fun j14 h15 h=>ai h15<|aZ h fun y16 h17 h=>ai (aD a7 h17)<|ai tt<|ai (g1 h13)<|ai tt<|ai (g1 h13)<|ai tt<|ai (g1 h13)<|ai (aL (I) y16.Params)<|ai tt<|ai (g1 h13)<|ai h13<|ba h (fun h18 h=>ai h18<|L h) (fun h18 h=>ai h18<|cZ h (np dp hp k0 hk_k0 hz c0 a0 r3) (fun ya_20 h=>L h) (fun yb_20 h=>L h))) (fun h13 h=>ai (g1 h13)<|ai (g1 h13)<|ai (g1 h13)<|ai (g1 h13)<|ai (g1 h13)<|ai (g1 h13)<|ai (g1 h13)<|ai (g1 h13)<|ai (g1 h13)<|ai (g1 h13)<|ai (g1 h13)<|ai (g1 h13)<|ai (g1 h13)<|ai (g1 h13)<|ai (g1 h13)<|ai h13<|ai ff<|cZ h (np dp hp k0 hk_k0 hz c0 a0 r3) (fun ya_15 h=>L h) (fun yb_15 h=>L h))))))
end
section
variable (dp:Nat)(hp:HP)(k0:Key)(a0:Stmt)
abbrev uQ(dp:Nat)(hp:HP)(k0:Key)(k1:Key)(k2:Key)(a0:Stmt)(a1:Int)(c0:Unit)(c1:Checker)(c2:Int)(r:(Bool×Unit×Int)):aX×HP:=(.ret (.b r.1),ad (ad (ad hp k0 [(.p k1 0)]) k1 (aq c1)) k2 [(I r.2.2)])
def jY(a1:Int)(c0:Unit)(c1:Checker)(c2:Int):Option (Bool×Unit×Int):=
 (iP c1 a0).bind fun (r1:Int)=>
 some ((r1==0),(),r1)
theorem sC(hk_k0:k0.dp<dp)(k1:Key)(hk_k1:k1.dp<dp)(k2:Key)(hk_k2:k2.dp<dp)(hn_k0_k1:k0≠k1)(hn_k0_k2:k0≠k2)(hn_k1_k2:k1≠k2)(hz:aO dp hp)(a0:Stmt)(a1:Int)(c0:Unit)(c1:Checker)(c2:Int)(r:(Bool×Unit×Int))(h:jY a0 a1 c0 c1 c2=some r):call G Ω0 ⟨dp,false⟩ 137 [(.a (ah a0)),(I a1),(.p k0 0),(.p k2 0)] (ad (ad (ad hp k0 [(.p k1 0)]) k1 (aq c1)) k2 [(I c2)])=some (uQ dp hp k0 k1 k2 a0 a1 c0 c1 c2 r):=
 aF ZJ (bf<|ao (.l [(.p k1 0)])<|bt<|xI fun r1=>ao (.h (boxes dp [(4,(ah a0))] (ad (ad (ad hp k0 [(.p k1 0)]) k1 (aq c1)) k2 [(I c2)])))<|bf<|ao (.l [(I c2)])<|bf<|ao (.h (ad (ad (ad hp k0 [(.p k1 0)]) k1 (aq c1)) k2 [(I r1)]))<|bf<|ao (.l [(I r1)])<|.nil) fun L=>ai ((by simp [ah,AV.aG,AV.aI,AV.deep,AV.bz,aj hk_k0,Nat.le_of_lt hk_k0,aj hk_k1,Nat.le_of_lt hk_k1,aj hk_k2,Nat.le_of_lt hk_k2]):(((.a (ah a0)):AV).deep dp&&(([(0,(.a (ah a0))),(1,(I a1)),(2,(.p k0 0)),(3,(.p k2 0))]:List (Nat×AV)).all (fun y=>y.2.aG ⟨dp,4⟩)&&([]:List (Nat×List AV)).all (fun y=>AV.aI ⟨dp,4⟩ y.2)))=true)<|ai (Nat.ne_of_lt hk_k0)<|ai (cu hn_k0_k1 hn_k0_k2:(ad (ad (ad hp k0 [(.p k1 0)]) k1 (aq c1)) k2 [(I c2)]) k0=some [(.p k1 0)])<|ai (rN dp)<|ai tt<|aZ h fun r1 ek2 h=>have ek2:call G Ω0 ⟨dp+1,true⟩ 138 [(.p k1 0),(.a (ah a0))] (boxes dp [(4,(ah a0))] (ad (ad (ad hp k0 [(.p k1 0)]) k1 (aq c1)) k2 [(I c2)]))=some (.ret (I r1),boxes dp [(4,(ah a0))] (ad (ad (ad hp k0 [(.p k1 0)]) k1 (aq c1)) k2 [(I c2)])):=cT (bI (hp1:=ad (ad (ad hp k0 [(.p k1 0)]) k1 (aq c1)) k2 [(I c2)]) (Nat.ne_of_lt hk_k1) (bS (Ne.symm hn_k1_k2) (bh ..))) (bI (hp1:=ad (ad (ad hp k0 [(.p k1 0)]) k1 (aq c1)) k2 [(I c2)]) (Nat.ne_of_lt hk_k1) (bS (Ne.symm hn_k1_k2) (bh ..))) (uP (dp+1) (boxes dp [(4,(ah a0))] (ad (ad (ad hp k0 [(.p k1 0)]) k1 (aq c1)) k2 [(I c2)])) k1 (Nat.lt_succ_of_lt hk_k1) (aE (ab hk_k2 (ab hk_k1 (ab hk_k0 (hz))))) c1 a0 _ ek2);ai ek2<|ai ff<|ai (Nat.ne_of_lt hk_k2)<|ai (aN (ad (ad hp k0 [(.p k1 0)]) k1 (aq c1)) k2 [(I c2)])<|ai tt<|ai (Nat.ne_of_lt hk_k2)<|ai (bh (ad (ad hp k0 [(.p k1 0)]) k1 (aq c1)) k2 [(I c2)] [(I r1)])<|ai (Nat.ne_of_lt hk_k2)<|ai (aN (ad (ad hp k0 [(.p k1 0)]) k1 (aq c1)) k2 [(I r1)])<|L h
end
section
variable (dp:Nat)(hp:HP)(k0:Key)(k1:Key)(k2:Key)(a0:(List Stmt))(a1:Int)(c0:Unit)(c1:Checker)(c2:Int)
abbrev n9(dp:Nat)(hp:HP)(k0:Key)(k1:Key)(k2:Key)(a0:(List Stmt))(a1:Int)(c0:Unit)(c1:Checker)(c2:Int)(r:(Bool×Unit×Int)):aX×HP:=(.ret (.b r.1),ad (ad (ad hp k0 [(.p k1 0)]) k1 (aq c1)) k2 [(I r.2.2)])
abbrev eu(r:(Bool×Unit×Int)):Prop:=call G Ω0 ⟨dp,false⟩ 99 [(.l 88 (a0.map aH)),(I a1),(.f 137 [(.p k0 0),(.p k2 0)])] (ad (ad (ad hp k0 [(.p k1 0)]) k1 (aq c1)) k2 [(I c2)])=some (n9 dp hp k0 k1 k2 a0 a1 c0 c1 c2 r)
end
structure ew where
 f_scope_Walk__scope_checker_stmts_1:(List Stmt)→Int→Unit→Checker→Int→Option (Bool×Unit×Int)
structure ee(R:ew):Prop where
 f_scope_Walk__scope_checker_stmts_1:∀ (dp:Nat)(hp:HP)(k0:Key)(hk_k0:k0.dp<dp)(k1:Key)(hk_k1:k1.dp<dp)(k2:Key)(hk_k2:k2.dp<dp)(hn_k0_k1:k0≠k1)(hn_k0_k2:k0≠k2)(hn_k1_k2:k1≠k2)(hz:aO dp hp)(a0:(List Stmt))(a1:Int)(c0:Unit)(c1:Checker)(c2:Int)(r:(Bool×Unit×Int)),R.f_scope_Walk__scope_checker_stmts_1 a0 a1 c0 c1 c2=some r→eu dp hp k0 k1 k2 a0 a1 c0 c1 c2 r
section
variable (R:ew)(a0:(List Stmt))(a1:Int)(c1:Checker)(dp:Nat)(hp:HP)(k0:Key)(c0:Unit)
def cM(v0_11:Nat)(v0_k2_0:Int):Option ((Nat×Int)⊕(Int⊕(Nat×Bool×Int))):=
 if (v0_11:Int)<(a0.length:Int) then
  (a0[v0_11]?).bind fun (y2:Stmt)=>
  (jY y2 a1 () c1 v0_k2_0).bind fun (r4:(Bool×Unit×Int))=>
  if r4.1=true then
   if IntKind.i64.wrap (a1+1)=a1+1 then
    (R.f_scope_Walk__scope_checker_stmts_1 y2.Then (a1+1) () c1 r4.2.2).bind fun (r8:(Bool×Unit×Int))=>
    if r8.1=true then
     (R.f_scope_Walk__scope_checker_stmts_1 y2.Else (a1+1) () c1 r8.2.2).bind fun (r11:(Bool×Unit×Int))=>
     if r11.1=true then
      if IntKind.i64.wrap ((v0_11:Int)+1)=((v0_11+1:Nat):Int) then
       some (.inl (v0_11+1,r11.2.2))
      else none
     else
      some (.inr (.inl r11.2.2))
    else
     some (.inr (.inl r8.2.2))
   else none
  else
   some (.inr (.inl r4.2.2))
 else
  some (.inr (.inr (v0_11,decide ((v0_11:Int)<(a0.length:Int)),v0_k2_0)))
abbrev mQ(dp:Nat)(hp:HP)(k0:Key)(k1:Key)(k2:Key)(a0:(List Stmt))(a1:Int)(c1:Checker)(v:(Nat×Int)):St:=⟨[(1,(I a1)),(2,(.f 137 [(.p k0 0),(.p k2 0)])),(9,(.l 88 (a0.map aH))),(10,(I (a0.length:Int))),(11,(I (v.1:Int)))],[],ad (ad (ad hp k0 [(.p k1 0)]) k1 (aq c1)) k2 [(I v.2)]⟩
abbrev mR(dp:Nat)(hp:HP)(k0:Key)(k1:Key)(k2:Key)(a0:(List Stmt))(a1:Int)(c1:Checker)(x:(Int⊕(Nat×Bool×Int))):aQ×St:=match x with | .inl z1=>(.ret,⟨[(6,(.b false))],[],ad (ad (ad hp k0 [(.p k1 0)]) k1 (aq c1)) k2 [(I z1)]⟩) | .inr (z1,z2,z3)=>((.ex 0),⟨[(1,(I a1)),(2,(.f 137 [(.p k0 0),(.p k2 0)])),(9,(.l 88 (a0.map aH))),(10,(I (a0.length:Int))),(11,(I (z1:Int))),(12,(.b z2))],[],ad (ad (ad hp k0 [(.p k1 0)]) k1 (aq c1)) k2 [(I z3)]⟩)
theorem mj(hR:ee R)(dp:Nat)(hp:HP)(k0:Key)(hk_k0:k0.dp<dp)(k1:Key)(hk_k1:k1.dp<dp)(k2:Key)(hk_k2:k2.dp<dp)(hn_k0_k1:k0≠k1)(hn_k0_k2:k0≠k2)(hn_k1_k2:k1≠k2)(hz:aO dp hp)(a0:(List Stmt))(a1:Int)(c1:Checker)(v0_11:Nat)(v0_k2_0:Int)(o:(Nat×Int)⊕(Int⊕(Nat×Bool×Int)))(h:cM R a0 a1 c1 v0_11 v0_k2_0=some o):bG ⟨dp,false⟩ EM (mQ dp hp k0 k1 k2 a0 a1 c1) (mR dp hp k0 k1 k2 a0 a1 c1) (v0_11,v0_k2_0) o:=
 bP (.or (bt<|ao (.n v0_11)<|.ex fun (y2:Stmt)=>ao (.v (.a (ah y2)))<|dF<|.ex fun (r4:(Bool×Unit×Int))=>ao (.v (.b r4.1))<|ao (.h (boxes dp [(8,(ah y2))] (ad (ad (ad hp k0 [(.p k1 0)]) k1 (aq c1)) k2 [(I r4.2.2)])))<|ao (.bx [(8,(ah y2))])<|ao (.h (ad (ad (ad hp k0 [(.p k1 0)]) k1 (aq c1)) k2 [(I r4.2.2)]))<|.or (p9<|ao (.i (a1+1))<|dE<|.ex fun (r8:(Bool×Unit×Int))=>ao (.v (.b r8.1))<|ao (.h (boxes dp [(8,(ah y2))] (ad (ad (ad hp k0 [(.p k1 0)]) k1 (aq c1)) k2 [(I r8.2.2)])))<|ao (.bx [(8,(ah y2))])<|ao (.h (ad (ad (ad hp k0 [(.p k1 0)]) k1 (aq c1)) k2 [(I r8.2.2)]))<|kT<|.or (p9<|ao (.i (a1+1))<|dE<|.ex fun (r11:(Bool×Unit×Int))=>ao (.v (.b r11.1))<|ao (.h (boxes dp [(8,(ah y2))] (ad (ad (ad hp k0 [(.p k1 0)]) k1 (aq c1)) k2 [(I r11.2.2)])))<|ao (.bx [(8,(ah y2))])<|ao (.h (ad (ad (ad hp k0 [(.p k1 0)]) k1 (aq c1)) k2 [(I r11.2.2)]))<|kT<|.or (bf<|ao (.i ((v0_11+1:Nat):Int))<|.nil) (bt<|.nil)) (LX<|.nil)) (LY<|.nil)) (bf<|.nil)) fun L=>bZ h (fun h1 h=>ai (decide_eq_true h1)<|ai (rI v0_11)<|aZ h fun y2 h3 h=>ai (jr aH h3 (lJ _))<|ai ((by simp [ah,AV.aG,AV.aI,AV.deep,AV.bz,aj hk_k0,Nat.le_of_lt hk_k0,aj hk_k1,Nat.le_of_lt hk_k1,aj hk_k2,Nat.le_of_lt hk_k2]):(([(14,(.a (ah y2))),(13,(.e (.a (ah y2)) 0)),(1,(I a1)),(2,(.f 137 [(.p k0 0),(.p k2 0)])),(9,(.l 88 (a0.map aH))),(10,(I (a0.length:Int))),(11,(I (v0_11:Int)))]:List (Nat×AV)).all (fun y=>y.2.aG ⟨dp,8⟩)&&([]:List (Nat×List AV)).all (fun y=>AV.aI ⟨dp,8⟩ y.2))=true)<|ai ff<|ai (rN dp)<|ai tt<|ai (rN dp)<|ai (rN dp)<|js<|aZ h fun r4 ek5 h=>have ek5:=ix hk_k0 hk_k1 hk_k2 hn_k0_k1 hn_k0_k2 hn_k1_k2 (sC (dp+1) (boxes dp [(8,(ah y2))] (ad (ad (ad hp k0 [(.p k1 0)]) k1 (aq c1)) k2 [(I v0_k2_0)])) k0 (Nat.lt_succ_of_lt hk_k0) k1 (Nat.lt_succ_of_lt hk_k1) k2 (Nat.lt_succ_of_lt hk_k2) (hn_k0_k1) (hn_k0_k2) (hn_k1_k2) (aE (ab hk_k2 (ab hk_k1 (ab hk_k0 (hz))))) y2 a1 () c1 v0_k2_0 _ ek5);ai ek5<|ai (dC ek5 (by kernel_rfl) (by kernel_rfl))<|ai (dD ek5 (ab hk_k2 (ab hk_k1 (ab hk_k0 (hz)))))<|ba h (fun h6 h=>sr (congrArg not h6)<|ai (rN dp)<|sr (congrArg not h6)<|aW h fun w7 h=>ai w7<|CP (congrArg not h6)<|aZ h fun r8 ek9 h=>have ek9:=ix hk_k0 hk_k1 hk_k2 hn_k0_k1 hn_k0_k2 hn_k1_k2 (hR.f_scope_Walk__scope_checker_stmts_1 (dp+1) (boxes dp [(8,(ah y2))] (ad (ad (ad hp k0 [(.p k1 0)]) k1 (aq c1)) k2 [(I r4.2.2)])) k0 (Nat.lt_succ_of_lt hk_k0) k1 (Nat.lt_succ_of_lt hk_k1) k2 (Nat.lt_succ_of_lt hk_k2) (hn_k0_k1) (hn_k0_k2) (hn_k1_k2) (aE (ab hk_k2 (ab hk_k1 (ab hk_k0 (hz))))) y2.Then (a1+1) () c1 r4.2.2 _ ek9);ai ek9<|ai (dC ek9 (by kernel_rfl) (by kernel_rfl))<|ai (dD ek9 (ab hk_k2 (ab hk_k1 (ab hk_k0 (hz)))))<|qx (congrArg not h6)<|ba h (fun h10 h=>sr (congrArg not h10)<|ai (rN dp)<|sr (congrArg not h10)<|ai w7<|CP (congrArg not h10)<|aZ h fun r11 ek12 h=>have ek12:=ix hk_k0 hk_k1 hk_k2 hn_k0_k1 hn_k0_k2 hn_k1_k2 (hR.f_scope_Walk__scope_checker_stmts_1 (dp+1) (boxes dp [(8,(ah y2))] (ad (ad (ad hp k0 [(.p k1 0)]) k1 (aq c1)) k2 [(I r8.2.2)])) k0 (Nat.lt_succ_of_lt hk_k0) k1 (Nat.lt_succ_of_lt hk_k1) k2 (Nat.lt_succ_of_lt hk_k2) (hn_k0_k1) (hn_k0_k2) (hn_k1_k2) (aE (ab hk_k2 (ab hk_k1 (ab hk_k0 (hz))))) y2.Else (a1+1) () c1 r8.2.2 _ ek12);ai ek12<|ai (dC ek12 (by kernel_rfl) (by kernel_rfl))<|ai (dD ek12 (ab hk_k2 (ab hk_k1 (ab hk_k0 (hz)))))<|qx (congrArg not h10)<|ba h (fun h13 h=>ai (congrArg not h13)<|aW h fun w14 h=>ai w14<|L h) (fun h13 h=>ai (congrArg not h13)<|L h)) (fun h10 h=>LR (congrArg not h10)<|L h)) (fun h6 h=>LS (congrArg not h6)<|L h)) (fun h1 h=>ai (decide_eq_false h1)<|L h)
def c8(c0:Unit)(c1:Checker)(c2:Int):Option (Bool×Unit×Int):=
 (lp (fun v=>cM R a0 a1 c1 v.1 v.2) (0,c2)).bind fun (x1:(Int⊕(Nat×Bool×Int)))=>match x1 with
 | .inl ya_2=>
  some (false,(),ya_2)
 | .inr yb_2=>
  some (true,(),yb_2.2.2)
theorem lZ(hR:ee R)(dp:Nat)(hp:HP)(k0:Key)(hk_k0:k0.dp<dp)(k1:Key)(hk_k1:k1.dp<dp)(k2:Key)(hk_k2:k2.dp<dp)(hn_k0_k1:k0≠k1)(hn_k0_k2:k0≠k2)(hn_k1_k2:k1≠k2)(hz:aO dp hp)(a0:(List Stmt))(a1:Int)(c0:Unit)(c1:Checker)(c2:Int)(r:(Bool×Unit×Int))(h:c8 R a0 a1 c0 c1 c2=some r):eu dp hp k0 k1 k2 a0 a1 c0 c1 c2 r:=
 aF RD (ao (.i (a0.length:Int))<|.or (.ex fun (ya_2:Int)=>ao (.lp .ret ⟨[(6,(.b false))],[],ad (ad (ad hp k0 [(.p k1 0)]) k1 (aq c1)) k2 [(I ya_2)]⟩)<|.nil) (.ex fun (yb_2:(Nat×Bool×Int))=>ao (.lp (.ex 0) ⟨[(1,(I a1)),(2,(.f 137 [(.p k0 0),(.p k2 0)])),(9,(.l 88 (a0.map aH))),(10,(I (a0.length:Int))),(11,(I (yb_2.1:Int))),(12,(.b yb_2.2.1))],[],ad (ad (ad hp k0 [(.p k1 0)]) k1 (aq c1)) k2 [(I yb_2.2.2)]⟩)<|.nil)) fun L=>ai (aL aH a0)<|cZ h (ek (fun v=>mj R hR dp hp k0 hk_k0 k1 hk_k1 k2 hk_k2 hn_k0_k1 hn_k0_k2 hn_k1_k2 hz a0 a1 c1 v.1 v.2) (0,c2)) (fun ya_2 h=>L h) (fun yb_2 h=>L h)
def cb:Nat→ew
 | 0=>⟨fun z0 z1 z2 z3 z4=>none⟩
 | n+1=>⟨c8 (cb n)⟩
theorem gC:∀ n,ee (cb n)
 | 0=>⟨fun _ _ _ _ _ _ _ _ _ _ _ _ _ _ _ _ _ r h=>(by cases h)⟩
 | n+1=>⟨fun dp hp k0 hk_k0 k1 hk_k1 k2 hk_k2 hn_k0_k1 hn_k0_k2 hn_k1_k2 hz a0 a1 c0 c1 c2 r h=>lZ _ (gC n) dp hp k0 hk_k0 k1 hk_k1 k2 hk_k2 hn_k0_k1 hn_k0_k2 hn_k1_k2 hz a0 a1 c0 c1 c2 r h⟩
def ey(c1:Checker)(c2:Int):Option (Bool×Unit×Int):=ev fun n=>(cb n).f_scope_Walk__scope_checker_stmts_1 a0 a1 c0 c1 c2
theorem ml(hk_k0:k0.dp<dp)(k1:Key)(hk_k1:k1.dp<dp)(k2:Key)(hk_k2:k2.dp<dp)(hn_k0_k1:k0≠k1)(hn_k0_k2:k0≠k2)(hn_k1_k2:k1≠k2)(hz:aO dp hp)(a0:(List Stmt))(a1:Int)(c0:Unit)(c1:Checker)(c2:Int)(r:(Bool×Unit×Int))(h:ey a0 a1 c0 c1 c2=some r):eu dp hp k0 k1 k2 a0 a1 c0 c1 c2 r:=by
 obtain ⟨n,hn⟩:=q8 h
 exact (gC n).f_scope_Walk__scope_checker_stmts_1 dp hp k0 hk_k0 k1 hk_k1 k2 hk_k2 hn_k0_k1 hn_k0_k2 hn_k1_k2 hz a0 a1 c0 c1 c2 r hn
end
section
variable (dp:Nat)(hp:HP)(k0:Key)(c0:Checker)(a0:(List Stmt))
abbrev wj(dp:Nat)(hp:HP)(k0:Key)(c0:Checker)(a0:(List Stmt))(r:Int):aX×HP:=(.ret (I r),ad hp k0 (aq c0))
def fi:Option Int:=
 (ey a0 1 () c0 0).bind fun (r1:(Bool×Unit×Int))=>
 some r1.2.2
theorem nq(hk_k0:k0.dp<dp)(hz:aO dp hp)(c0:Checker)(a0:(List Stmt))(r:Int)(h:fi c0 a0=some r):call G Ω0 ⟨dp,false⟩ 96 [(.p k0 0),(.l 88 (a0.map aH))] (ad hp k0 (aq c0))=some (wj dp hp k0 c0 a0 r):=
 aF G96 (dE<|.ex fun (r1:(Bool×Unit×Int))=>ao (.v (.b r1.1))<|ao (.h (boxes dp [(2,[(.p k0 0)]),(5,[(I r1.2.2)])] (ad hp k0 (aq c0))))<|ao (.bx [(2,[(.p k0 0)]),(5,[(I r1.2.2)])])<|ao (.h (ad hp k0 (aq c0)))<|bt<|.nil) fun L=>ai ((by simp [AV.aG,AV.aI,AV.deep,AV.bz,aj hk_k0,Nat.le_of_lt hk_k0]):(((.p k0 0):AV).deep dp&&(([(0,(.p k0 0)),(1,(.l 88 (a0.map aH)))]:List (Nat×AV)).all (fun y=>y.2.aG ⟨dp,2⟩)&&([]:List (Nat×List AV)).all (fun y=>AV.aI ⟨dp,2⟩ y.2)))=true)<|ai ((by simp [AV.aG,AV.aI,AV.deep,AV.bz,aj hk_k0,Nat.le_of_lt hk_k0]):(([(1,(.l 88 (a0.map aH))),(2,(.p ⟨dp,2⟩ 0))]:List (Nat×AV)).all (fun y=>y.2.aG ⟨dp,5⟩)&&([(2,[(.p k0 0)])]:List (Nat×List AV)).all (fun y=>AV.aI ⟨dp,5⟩ y.2))=true)<|ai ff<|ai (rN dp)<|ai tt<|ai (rN dp)<|ai ff<|ai ((by simp [AV.deep,AV.bz,Nat.le_of_lt hk_k0]):([(2,[(.p k0 0)]),(5,[(I 0)])]:List (Nat×List AV)).all (fun y=>AV.bz dp y.2)=true)<|aZ h fun r1 ek2 h=>have ek2:call G Ω0 ⟨dp+1,false⟩ 99 [(.l 88 (a0.map aH)),(I 1),(.f 137 [(.p ⟨dp,2⟩ 0),(.p ⟨dp,5⟩ 0)])] (boxes dp [(2,[(.p k0 0)]),(5,[(I 0)])] (ad hp k0 (aq c0)))=some (.ret (.b r1.1),boxes dp [(2,[(.p k0 0)]),(5,[(I r1.2.2)])] (ad hp k0 (aq c0))):=cT (e7 (e7 (cq (bx1:=[(2,[(.p k0 0)]),(5,[(I 0)])]) (by kernel_rfl) (by kernel_rfl)) (bI (hp1:=ad hp k0 (aq c0)) (Nat.ne_of_lt hk_k0) (bh ..))) (cq (bx1:=[(2,[(.p k0 0)]),(5,[(I 0)])]) (by kernel_rfl) (by kernel_rfl))) (e7 (e7 (cq (bx1:=[(2,[(.p k0 0)]),(5,[(I 0)])]) (by kernel_rfl) (by kernel_rfl)) (bI (hp1:=ad hp k0 (aq c0)) (Nat.ne_of_lt hk_k0) (bh ..))) (cq (bx1:=[(2,[(.p k0 0)]),(5,[(I r1.2.2)])]) (by kernel_rfl) (by kernel_rfl))) (ml (dp+1) (boxes dp [(2,[(.p k0 0)]),(5,[(I 0)])] (ad hp k0 (aq c0))) ⟨dp,2⟩ (Nat.lt_succ_self dp) k0 (Nat.lt_succ_of_lt hk_k0) ⟨dp,5⟩ (Nat.lt_succ_self dp) (CO hk_k0) (BA (by decide)) (aj hk_k0) (aE (ab hk_k0 (hz))) a0 1 () c0 0 _ ek2);ai ek2<|ai (dC ek2 (by kernel_rfl) (by kernel_rfl))<|ai (dD ek2 (ab hk_k0 (hz)))<|ai (rN dp)<|L h
end
section
variable (c0:Checker)(a0:Func)(dp:Nat)(hp:HP)(k0:Key)
def iQ(v0_15:Nat):Option (Nat⊕(Unit⊕(Unit⊕(Nat×Bool)))):=
 if (v0_15:Int)<(a0.Params.length:Int) then
  (a0.Params[v0_15]?).bind fun (y3:Int)=>
  if y3<0 then
   some (.inr (.inl ()))
  else
   if (c0.p.Vars.length:Int)≤y3 then
    some (.inr (.inl ()))
   else
    if v0_15≤a0.Params.length then
     (gX ((a0.Params.take v0_15).drop 0) y3).bind fun (r8:Bool)=>
     if r8=true then
      some (.inr (.inr (.inl ())))
     else
      if IntKind.i64.wrap ((v0_15:Int)+1)=((v0_15+1:Nat):Int) then
       some (.inl (v0_15+1))
      else none
    else none
 else
  some (.inr (.inr (.inr (v0_15,decide ((v0_15:Int)<(a0.Params.length:Int))))))
abbrev xi(c0:Checker)(a0:Func)(v:Nat):St:=⟨[(0,(.p k0 0)),(3,(.p ⟨dp,3⟩ 0)),(13,(.l 3 (a0.Params.map (I)))),(14,(I (a0.Params.length:Int))),(15,(I (v:Int)))],[(3,(ct a0))],ad hp k0 (aq c0)⟩
abbrev xj(c0:Checker)(a0:Func)(x:(Unit⊕(Unit⊕(Nat×Bool)))):aQ×St:=match x with | .inl ()=>(.ret,⟨[(4,(I 5))],[],ad hp k0 (aq c0)⟩) | .inr (.inl ())=>(.ret,⟨[(4,(I 6))],[],ad hp k0 (aq c0)⟩) | .inr (.inr (z1,z2))=>((.ex 0),⟨[(0,(.p k0 0)),(3,(.p ⟨dp,3⟩ 0)),(13,(.l 3 (a0.Params.map (I)))),(14,(I (a0.Params.length:Int))),(15,(I (z1:Int))),(16,(.b z2))],[(3,(ct a0))],ad hp k0 (aq c0)⟩)
theorem wk(hk_k0:k0.dp<dp)(hz:aO dp hp)(c0:Checker)(a0:Func)(v0_15:Nat)(o:Nat⊕(Unit⊕(Unit⊕(Nat×Bool))))(h:iQ c0 a0 v0_15=some o):bG ⟨dp,false⟩ M3 (xi dp hp k0 c0 a0) (xj dp hp k0 c0 a0) v0_15 o:=
 bP (.or (bt<|ao (.n v0_15)<|xI fun y3=>.or (bf<|bf<|bf<|bf<|bf<|bf<|bf<|bf<|bt<|bt<|.nil) (Fi<|ao (.l (aq c0))<|bt<|ao (.i (c0.p.Vars.length:Int))<|kT<|oN (bt<|ao (.n v0_15)<|ao (.l (((a0.Params.take v0_15).drop 0).map (I)))<|xB fun r8=>oN (ao (.i ((v0_15+1:Nat):Int))<|.nil)))) (bf<|.nil)) fun L=>bZ h (fun h2 h=>ai (decide_eq_true h2)<|ai (rI v0_15)<|aZ h fun y3 h4 h=>ai (aD (I) h4)<|bZ h (fun h5 h=>ai (g0 (decide_eq_true h5))<|ai (g0 (decide_eq_true h5))<|ai (g0 (decide_eq_true h5))<|ai (g0 (decide_eq_true h5))<|ai (g0 (decide_eq_true h5))<|ai (g0 (decide_eq_true h5))<|ai (g0 (decide_eq_true h5))<|ai (g0 (decide_eq_true h5))<|ai (decide_eq_true h5)<|ai tt<|L h) (fun h5 h=>ai (g0 (decide_eq_false h5))<|ai (g0 (decide_eq_false h5))<|ai (g0 (decide_eq_false h5))<|ai (g0 (decide_eq_false h5))<|ai (g0 (decide_eq_false h5))<|ai (g0 (decide_eq_false h5))<|ai (Nat.ne_of_lt hk_k0)<|ai (aN hp k0 (aq c0))<|ai (g0 (decide_eq_false h5))<|ai (aL bm c0.p.Vars)<|qx (decide_eq_false h5)<|bZ h (fun h6 h=>ai (decide_eq_true h6)<|L h) (fun h6 h=>ai (decide_eq_false h6)<|ai (rN dp)<|ai (rI v0_15)<|ai ((by decide):3≠0)<|ai ((gw (I) (n:=1) (fun _=>rfl) a0.Params):(a0.Params.map (I)).all (fun e=>e.nc==1)=true)<|ai (Nat.zero_le _:0≤v0_15)<|aW h fun h7 h=>ai ((by rw [List.length_map];exact h7):v0_15≤(a0.Params.map (I)).length)<|ai (Eg (I) a0.Params 0 v0_15)<|aP h (tN ((a0.Params.take v0_15).drop 0) y3) fun r8 h=>ba h (fun h10 h=>ai h10<|L h) (fun h10 h=>ai h10<|aW h fun w11 h=>ai w11<|L h)))) (fun h2 h=>ai (decide_eq_false h2)<|L h)
abbrev yF(dp:Nat)(hp:HP)(k0:Key)(c0:Checker)(a0:Func)(r:Int):aX×HP:=(.ret (I r),ad hp k0 (aq c0))
def kr:Option Int:=
 if 4<(a0.Params.length:Int) then
  some 2
 else
  (lp (fun v=>iQ c0 a0 v) 0).bind fun (x2:(Unit⊕(Unit⊕(Nat×Bool))))=>match x2 with
  | .inl ya_3=>
   some 5
  | .inr (.inl yb_3)=>
   some 6
  | .inr (.inr yc_3)=>
   (fi c0 a0.Body).bind fun (r5:Int)=>
   if (r5 !=0)=true then
    some r5
   else
    (jt a0.Result (c0.p.Vars.length:Int)).bind fun (r8:Int)=>
    some r8
theorem wm(hk_k0:k0.dp<dp)(hz:aO dp hp)(c0:Checker)(a0:Func)(r:Int)(h:kr c0 a0=some r):call G Ω0 ⟨dp,false⟩ 95 [(.p k0 0),(.a (ct a0))] (ad hp k0 (aq c0))=some (yF dp hp k0 c0 a0 r):=
 aF G95 (bt<|ao (.i (a0.Params.length:Int))<|oN (bt<|ao (.i (a0.Params.length:Int))<|.or (.ex fun (ya_3:Unit)=>ao (.lp .ret ⟨[(4,(I 5))],[],ad hp k0 (aq c0)⟩)<|.nil) (.or (.ex fun (yb_3:Unit)=>ao (.lp .ret ⟨[(4,(I 6))],[],ad hp k0 (aq c0)⟩)<|.nil) (.ex fun (yc_3:(Nat×Bool))=>ao (.lp (.ex 0) ⟨[(0,(.p k0 0)),(3,(.p ⟨dp,3⟩ 0)),(13,(.l 3 (a0.Params.map (I)))),(14,(I (a0.Params.length:Int))),(15,(I (yc_3.1:Int))),(16,(.b yc_3.2))],[(3,(ct a0))],ad hp k0 (aq c0)⟩)<|bt<|xI fun r5=>ao (.h (boxes dp [(3,(ct a0))] (ad hp k0 (aq c0))))<|ao (.bx [(3,(ct a0))])<|ao (.h (ad hp k0 (aq c0)))<|oN (kT<|ao (.l (aq c0))<|ao (.i (c0.p.Vars.length:Int))<|xI fun r8=>.nil))))) fun L=>ai ((by simp [ct,AV.aG,AV.aI,AV.deep,AV.bz,aj hk_k0,Nat.le_of_lt hk_k0]):(((.a (ct a0)):AV).deep dp&&(([(0,(.p k0 0)),(1,(.a (ct a0)))]:List (Nat×AV)).all (fun y=>y.2.aG ⟨dp,3⟩)&&([]:List (Nat×List AV)).all (fun y=>AV.aI ⟨dp,3⟩ y.2)))=true)<|ai (rN dp)<|ai (aL (I) a0.Params)<|bZ h (fun h1 h=>ai (decide_eq_true h1)<|L h) (fun h1 h=>ai (decide_eq_false h1)<|ai (rN dp)<|ai (aL (I) a0.Params)<|M8 h (ek (wk dp hp k0 hk_k0 hz c0 a0) 0) (fun ya_3 h=>L h) (fun yb_3 h=>L h) (fun yc_3 h=>ai (rN dp)<|js<|aZ h fun r5 ek6 h=>have ek6:=cO hk_k0 (nq (dp+1) (boxes dp [(3,(ct a0))] (ad hp k0 (aq c0))) k0 (Nat.lt_succ_of_lt hk_k0) (aE (ab hk_k0 (hz))) c0 a0.Body _ ek6);ai ek6<|ai (dC ek6 (by kernel_rfl) (by kernel_rfl))<|ai (dD ek6 (ab hk_k0 (hz)))<|ba h (fun h7 h=>ai h7<|L h) (fun h7 h=>Fg h7<|ai (rN dp)<|oD<|ai (Nat.ne_of_lt hk_k0)<|ai (aN hp k0 (aq c0))<|ai tt<|ai (aL bm c0.p.Vars)<|ai tt<|aP h (qz a0.Result (c0.p.Vars.length:Int)) fun r8 h=>L h)))
end
section
variable (a0:Program)
def kt(v0_22:Nat)(v0_18_8:Nat):Option ((Nat×Nat)⊕(Int⊕(Nat×Bool×Nat))):=
 if (v0_22:Int)<(a0.Funcs.length:Int) then
  (a0.Funcs[v0_22]?).bind fun (y8:Func)=>
  (kr (⟨a0,(v0_22:Int)⟩:Checker) y8).bind fun (r10:Int)=>
  if (r10 !=0)=true then
   some (.inr (.inl r10))
  else
   if IntKind.i64.wrap ((v0_22:Int)+1)=((v0_22+1:Nat):Int) then
    some (.inl (v0_22+1,v0_22))
   else none
 else
  some (.inr (.inr (v0_22,decide ((v0_22:Int)<(a0.Funcs.length:Int)),v0_18_8)))
abbrev BY(v:(Nat×Nat)):St:=⟨[(1,(.p ⟨0,1⟩ 0)),(4,(.p ⟨0,18⟩ 0)),(20,(.l 112 (a0.Funcs.map a7))),(21,(I (a0.Funcs.length:Int))),(22,(I (v.1:Int)))],[(1,(aA a0)),(18,[(I a0.af.Many),(.l 136 (a0.af.Grants.map az)),(.l 3 (a0.Speak.map (I))),(.l 49 (a0.Ins.map av)),(.l 49 (a0.Outs.map av)),(.l 51 (a0.Vars.map bm)),(.l 112 (a0.Funcs.map a7)),(.l 88 (a0.Main.map aH)),(I (v.2:Int))])],H0⟩
abbrev BZ(x:(Int⊕(Nat×Bool×Nat))):aQ×St:=match x with | .inl z1=>(.ret,⟨[(2,(I z1))],[],H0⟩) | .inr (z1,z2,z3)=>((.ex 0),⟨[(1,(.p ⟨0,1⟩ 0)),(4,(.p ⟨0,18⟩ 0)),(20,(.l 112 (a0.Funcs.map a7))),(21,(I (a0.Funcs.length:Int))),(22,(I (z1:Int))),(23,(.b z2))],[(1,(aA a0)),(18,[(I a0.af.Many),(.l 136 (a0.af.Grants.map az)),(.l 3 (a0.Speak.map (I))),(.l 49 (a0.Ins.map av)),(.l 49 (a0.Outs.map av)),(.l 51 (a0.Vars.map bm)),(.l 112 (a0.Funcs.map a7)),(.l 88 (a0.Main.map aH)),(I (z3:Int))])],H0⟩)
theorem AO(v0_22:Nat)(v0_18_8:Nat)(o:(Nat×Nat)⊕(Int⊕(Nat×Bool×Nat)))(h:kt a0 v0_22 v0_18_8=some o):bG E0 MO (BY a0) (BZ a0) (v0_22,v0_18_8) o:=
 bP (.or (bt<|ao (.n v0_22)<|.ex fun (y8:Func)=>ao (.v (.a (ct y8)))<|p9<|xI fun r10=>ao (.h (boxes 0 [(1,(aA a0)),(6,(ct y8)),(18,[(I a0.af.Many),(.l 136 (a0.af.Grants.map az)),(.l 3 (a0.Speak.map (I))),(.l 49 (a0.Ins.map av)),(.l 49 (a0.Outs.map av)),(.l 51 (a0.Vars.map bm)),(.l 112 (a0.Funcs.map a7)),(.l 88 (a0.Main.map aH)),(I (v0_22:Int))])] H0))<|ao (.bx [(1,(aA a0)),(6,(ct y8)),(18,[(I a0.af.Many),(.l 136 (a0.af.Grants.map az)),(.l 3 (a0.Speak.map (I))),(.l 49 (a0.Ins.map av)),(.l 49 (a0.Outs.map av)),(.l 51 (a0.Vars.map bm)),(.l 112 (a0.Funcs.map a7)),(.l 88 (a0.Main.map aH)),(I (v0_22:Int))])])<|ao (.h (H0))<|oN (ao (.i ((v0_22+1:Nat):Int))<|.nil)) (bf<|.nil)) fun L=>bZ h (fun h7 h=>ai (decide_eq_true h7)<|ai (rI v0_22)<|aZ h fun y8 h9 h=>ai (aD a7 h9)<|ai tt<|ai ff<|ai (rfl:Z0)<|ai tt<|ai (rfl:Z0)<|ai ff<|ai (rfl:Z0)<|ai tt<|ai (rfl:Z0)<|ai (rfl:Z0)<|ai ff<|ai tt<|aZ h fun r10 ek11 h=>have ek11:call G Ω0 ⟨0+1,false⟩ 95 [(.p ⟨0,18⟩ 0),(.a (ct y8))] (boxes 0 [(1,(aA a0)),(6,(ct y8)),(18,[(I a0.af.Many),(.l 136 (a0.af.Grants.map az)),(.l 3 (a0.Speak.map (I))),(.l 49 (a0.Ins.map av)),(.l 49 (a0.Outs.map av)),(.l 51 (a0.Vars.map bm)),(.l 112 (a0.Funcs.map a7)),(.l 88 (a0.Main.map aH)),(I (v0_22:Int))])] H0)=some (.ret (I r10),boxes 0 [(1,(aA a0)),(6,(ct y8)),(18,[(I a0.af.Many),(.l 136 (a0.af.Grants.map az)),(.l 3 (a0.Speak.map (I))),(.l 49 (a0.Ins.map av)),(.l 49 (a0.Outs.map av)),(.l 51 (a0.Vars.map bm)),(.l 112 (a0.Funcs.map a7)),(.l 88 (a0.Main.map aH)),(I (v0_22:Int))])] H0):=cT (cq (bx1:=[(1,(aA a0)),(6,(ct y8)),(18,[(I a0.af.Many),(.l 136 (a0.af.Grants.map az)),(.l 3 (a0.Speak.map (I))),(.l 49 (a0.Ins.map av)),(.l 49 (a0.Outs.map av)),(.l 51 (a0.Vars.map bm)),(.l 112 (a0.Funcs.map a7)),(.l 88 (a0.Main.map aH)),(I (v0_22:Int))])]) (by kernel_rfl) (by kernel_rfl)) (cq (bx1:=[(1,(aA a0)),(6,(ct y8)),(18,[(I a0.af.Many),(.l 136 (a0.af.Grants.map az)),(.l 3 (a0.Speak.map (I))),(.l 49 (a0.Ins.map av)),(.l 49 (a0.Outs.map av)),(.l 51 (a0.Vars.map bm)),(.l 112 (a0.Funcs.map a7)),(.l 88 (a0.Main.map aH)),(I (v0_22:Int))])]) (by kernel_rfl) (by kernel_rfl)) (wm (0+1) (boxes 0 [(1,(aA a0)),(6,(ct y8)),(18,[(I a0.af.Many),(.l 136 (a0.af.Grants.map az)),(.l 3 (a0.Speak.map (I))),(.l 49 (a0.Ins.map av)),(.l 49 (a0.Outs.map av)),(.l 51 (a0.Vars.map bm)),(.l 112 (a0.Funcs.map a7)),(.l 88 (a0.Main.map aH)),(I (v0_22:Int))])] H0) ⟨0,18⟩ (Nat.lt_succ_self 0) (aE (e8 0)) (⟨a0,(v0_22:Int)⟩:Checker) y8 _ ek11);ai ek11<|ai (dC ek11 (by kernel_rfl) (by kernel_rfl))<|ai (dD ek11 (e8 0))<|ba h (fun h12 h=>ai h12<|L h) (fun h12 h=>ai h12<|aW h fun w13 h=>ai w13<|L h)) (fun h7 h=>ai (decide_eq_false h7)<|L h)
abbrev Es(a0:Program)(r:Int):aX×HP:=(.ret (I r),H0)
def pE:Option Int:=
 (qD a0).bind fun (r1:Int)=>
 if (r1 !=0)=true then
  some r1
 else
  (rF a0).bind fun (r4:Bool)=>
  if r4=true then
   (lp (fun v=>kt a0 v.1 v.2) (0,0)).bind fun (x7:(Int⊕(Nat×Bool×Nat)))=>match x7 with
   | .inl ya_8=>
    some ya_8
   | .inr yb_8=>
    (fi (⟨a0,(a0.Funcs.length:Int)⟩:Checker) a0.Main).bind fun (r10:Int)=>
    some r10
  else
   some 2
theorem AP(r:Int)(h:pE a0=some r):call G Ω0 E0 51 [(.a (aA a0))] H0=some (Es a0 r):=
 aF G51 (bt<|xI fun r1=>oN (bt<|xB fun r4=>.or (bf<|bt<|bt<|ao (.i (a0.Funcs.length:Int))<|.or (.ex fun (ya_8:Int)=>ao (.lp .ret ⟨[(2,(I ya_8))],[],H0⟩)<|.nil) (.ex fun (yb_8:(Nat×Bool×Nat))=>ao (.lp (.ex 0) ⟨[(1,(.p ⟨0,1⟩ 0)),(4,(.p ⟨0,18⟩ 0)),(20,(.l 112 (a0.Funcs.map a7))),(21,(I (a0.Funcs.length:Int))),(22,(I (yb_8.1:Int))),(23,(.b yb_8.2.1))],[(1,(aA a0)),(18,[(I a0.af.Many),(.l 136 (a0.af.Grants.map az)),(.l 3 (a0.Speak.map (I))),(.l 49 (a0.Ins.map av)),(.l 49 (a0.Outs.map av)),(.l 51 (a0.Vars.map bm)),(.l 112 (a0.Funcs.map a7)),(.l 88 (a0.Main.map aH)),(I (yb_8.2.2:Int))])],H0⟩)<|bt<|ao (.i (a0.Funcs.length:Int))<|dF<|xI fun r10=>ao (.h (boxes 0 [(1,(aA a0)),(18,[(I a0.af.Many),(.l 136 (a0.af.Grants.map az)),(.l 3 (a0.Speak.map (I))),(.l 49 (a0.Ins.map av)),(.l 49 (a0.Outs.map av)),(.l 51 (a0.Vars.map bm)),(.l 112 (a0.Funcs.map a7)),(.l 88 (a0.Main.map aH)),(I (a0.Funcs.length:Int))])] H0))<|ao (.bx [(1,(aA a0)),(18,[(I a0.af.Many),(.l 136 (a0.af.Grants.map az)),(.l 3 (a0.Speak.map (I))),(.l 49 (a0.Ins.map av)),(.l 49 (a0.Outs.map av)),(.l 51 (a0.Vars.map bm)),(.l 112 (a0.Funcs.map a7)),(.l 88 (a0.Main.map aH)),(I (a0.Funcs.length:Int))])])<|ao (.h (H0))<|.nil)) (bt<|.nil))) fun L=>tD<|aP h (BX a0) fun r1 h=>ba h (fun h3 h=>ai h3<|L h) (fun h3 h=>sK h3<|aP h (Dg a0) fun r4 h=>ba h (fun h6 h=>ai (congrArg not h6)<|ai (rfl:Z0)<|ai tt<|ai (rfl:Z0)<|ai (aL a7 a0.Funcs)<|cZ h (ek (fun v=>AO a0 v.1 v.2) (0,0)) (fun ya_8 h=>L h) (fun yb_8 h=>ai (rfl:Z0)<|ai (aL a7 a0.Funcs)<|ai ff<|ai (rfl:Z0)<|ai tt<|ai (rfl:Z0)<|ai (rfl:Z0)<|ai ff<|ai tt<|aZ h fun r10 ek11 h=>have ek11:call G Ω0 ⟨0+1,false⟩ 96 [(.p ⟨0,18⟩ 0),(.l 88 (a0.Main.map aH))] (boxes 0 [(1,(aA a0)),(18,[(I a0.af.Many),(.l 136 (a0.af.Grants.map az)),(.l 3 (a0.Speak.map (I))),(.l 49 (a0.Ins.map av)),(.l 49 (a0.Outs.map av)),(.l 51 (a0.Vars.map bm)),(.l 112 (a0.Funcs.map a7)),(.l 88 (a0.Main.map aH)),(I (a0.Funcs.length:Int))])] H0)=some (.ret (I r10),boxes 0 [(1,(aA a0)),(18,[(I a0.af.Many),(.l 136 (a0.af.Grants.map az)),(.l 3 (a0.Speak.map (I))),(.l 49 (a0.Ins.map av)),(.l 49 (a0.Outs.map av)),(.l 51 (a0.Vars.map bm)),(.l 112 (a0.Funcs.map a7)),(.l 88 (a0.Main.map aH)),(I (a0.Funcs.length:Int))])] H0):=cT (cq (bx1:=[(1,(aA a0)),(18,[(I a0.af.Many),(.l 136 (a0.af.Grants.map az)),(.l 3 (a0.Speak.map (I))),(.l 49 (a0.Ins.map av)),(.l 49 (a0.Outs.map av)),(.l 51 (a0.Vars.map bm)),(.l 112 (a0.Funcs.map a7)),(.l 88 (a0.Main.map aH)),(I (a0.Funcs.length:Int))])]) (by kernel_rfl) (by kernel_rfl)) (cq (bx1:=[(1,(aA a0)),(18,[(I a0.af.Many),(.l 136 (a0.af.Grants.map az)),(.l 3 (a0.Speak.map (I))),(.l 49 (a0.Ins.map av)),(.l 49 (a0.Outs.map av)),(.l 51 (a0.Vars.map bm)),(.l 112 (a0.Funcs.map a7)),(.l 88 (a0.Main.map aH)),(I (a0.Funcs.length:Int))])]) (by kernel_rfl) (by kernel_rfl)) (nq (0+1) (boxes 0 [(1,(aA a0)),(18,[(I a0.af.Many),(.l 136 (a0.af.Grants.map az)),(.l 3 (a0.Speak.map (I))),(.l 49 (a0.Ins.map av)),(.l 49 (a0.Outs.map av)),(.l 51 (a0.Vars.map bm)),(.l 112 (a0.Funcs.map a7)),(.l 88 (a0.Main.map aH)),(I (a0.Funcs.length:Int))])] H0) ⟨0,18⟩ (Nat.lt_succ_self 0) (aE (e8 0)) (⟨a0,(a0.Funcs.length:Int)⟩:Checker) a0.Main _ ek11);ai ek11<|ai (dC ek11 (by kernel_rfl) (by kernel_rfl))<|ai (dD ek11 (e8 0))<|L h)) (fun h6 h=>ai (congrArg not h6)<|L h))
end
section
variable (a0:(List Int))
abbrev Et(a0:(List Int))(r:Bool):aX×HP:=(.ret (.b r),H0)
def sD:Option Bool:=
 some (decide (100<(a0.length:Int)))
theorem AQ(r:Bool)(h:sD a0=some r):call G Ω0 E0 53 [(.l 3 (a0.map (I)))] H0=some (Et a0 r):=
 aF G53 (ao (.i (a0.length:Int))<|.nil) fun L=>ai (aL (I) a0)<|L h
end
section
variable (a0:(List (List Int)))
def iZ(v0_8:Nat):Option (Nat⊕(Nat⊕(Nat×Bool))):=
 if (v0_8:Int)<(a0.length:Int) then
  (a0[v0_8]?).bind fun (y2:(List Int))=>
  (sD y2).bind fun (r4:Bool)=>
  if r4=true then
   some (.inr (.inl v0_8))
  else
   if IntKind.i64.wrap ((v0_8:Int)+1)=((v0_8+1:Nat):Int) then
    some (.inl (v0_8+1))
   else none
 else
  some (.inr (.inr (v0_8,decide ((v0_8:Int)<(a0.length:Int)))))
abbrev pa(v:Nat):St:=⟨[(0,(.l 25 (a0.map (bB 3 (I))))),(1,(.f 53 [])),(7,(I (a0.length:Int))),(8,(I (v:Int)))],[],H0⟩
abbrev pb(x:(Nat⊕(Nat×Bool))):aQ×St:=match x with | .inl z1=>(.ret,⟨[(4,(I (z1:Int)))],[],H0⟩) | .inr (z1,z2)=>((.ex 0),⟨[(0,(.l 25 (a0.map (bB 3 (I))))),(1,(.f 53 [])),(7,(I (a0.length:Int))),(8,(I (z1:Int))),(9,(.b z2))],[],H0⟩)
theorem oM(v0_8:Nat)(o:Nat⊕(Nat⊕(Nat×Bool)))(h:iZ a0 v0_8=some o):bG E0 Ip (pa a0) (pb a0) v0_8 o:=
 bP (.or (bt<|ao (.n v0_8)<|.ex fun (y2:(List Int))=>ao (.v (.l 3 (y2.map (I))))<|xB fun r4=>oN (ao (.i ((v0_8+1:Nat):Int))<|.nil)) (bf<|.nil)) fun L=>bZ h (fun h1 h=>ai (decide_eq_true h1)<|ai (rI v0_8)<|aZ h fun y2 h3 h=>ai (aD (bB 3 (I)) h3)<|aP h (AQ y2) fun r4 h=>ba h (fun h6 h=>ai h6<|L h) (fun h6 h=>ai h6<|aW h fun w7 h=>ai w7<|L h)) (fun h1 h=>ai (decide_eq_false h1)<|L h)
abbrev qm(a0:(List (List Int)))(r:Int):aX×HP:=(.ret (I r),H0)
def jU:Option Int:=
 (lp (fun v=>iZ a0 v) 0).bind fun (x1:(Nat⊕(Nat×Bool)))=>match x1 with
 | .inl ya_2=>
  some (ya_2:Int)
 | .inr yb_2=>
  some (-1)
theorem oO(r:Int)(h:jU a0=some r):call G Ω0 E0 97 [(.l 25 (a0.map (bB 3 (I)))),(.f 53 [])] H0=some (qm a0 r):=
 aF YJ (ao (.i (a0.length:Int))<|.or (.ex fun (ya_2:Nat)=>ao (.lp .ret ⟨[(4,(I (ya_2:Int)))],[],H0⟩)<|.nil) (.ex fun (yb_2:(Nat×Bool))=>ao (.lp (.ex 0) ⟨[(0,(.l 25 (a0.map (bB 3 (I))))),(1,(.f 53 [])),(7,(I (a0.length:Int))),(8,(I (yb_2.1:Int))),(9,(.b yb_2.2))],[],H0⟩)<|.nil)) fun L=>ai (aL (bB 3 (I)) a0)<|cZ h (ek (oM a0) 0) (fun ya_2 h=>L h) (fun yb_2 h=>L h)
abbrev oP(a0:(List (List Int)))(r:Bool):aX×HP:=(.ret (.b r),H0)
def eJ:Option Bool:=
 (jU a0).bind fun (r1:Int)=>
 some (decide (0≤r1))
theorem mS(r:Bool)(h:eJ a0=some r):call G Ω0 E0 52 [(.l 25 (a0.map (bB 3 (I)))),(.f 53 [])] H0=some (oP a0 r):=
 aF YH (xI fun r1=>.nil) fun L=>aP h (oO a0) fun r1 h=>L h
end
section
variable (a0:Int)
abbrev B0(a0:Int)(r:Bool):aX×HP:=(.ret (.b r),H0)
def mz:Option Bool:=
 (qB a0).bind fun (r1:Bool)=>
 some (!r1)
theorem yG(r:Bool)(h:mz a0=some r):call G Ω0 E0 56 [(I a0)] H0=some (B0 a0 r):=
 aF G56 (xB fun r1=>.nil) fun L=>aP h (BP a0) fun r1 h=>L h
end
section
variable (a0:(List Int))
def gY(v0_8:Nat):Option (Nat⊕(Nat⊕(Nat×Bool))):=
 if (v0_8:Int)<(a0.length:Int) then
  (a0[v0_8]?).bind fun (y2:Int)=>
  (mz y2).bind fun (r4:Bool)=>
  if r4=true then
   some (.inr (.inl v0_8))
  else
   if IntKind.i64.wrap ((v0_8:Int)+1)=((v0_8+1:Nat):Int) then
    some (.inl (v0_8+1))
   else none
 else
  some (.inr (.inr (v0_8,decide ((v0_8:Int)<(a0.length:Int)))))
abbrev oa(v:Nat):St:=⟨[(0,(.l 3 (a0.map (I)))),(1,(.f 56 [])),(7,(I (a0.length:Int))),(8,(I (v:Int)))],[],H0⟩
abbrev ob(x:(Nat⊕(Nat×Bool))):aQ×St:=match x with | .inl z1=>(.ret,⟨[(4,(I (z1:Int)))],[],H0⟩) | .inr (z1,z2)=>((.ex 0),⟨[(0,(.l 3 (a0.map (I)))),(1,(.f 56 [])),(7,(I (a0.length:Int))),(8,(I (z1:Int))),(9,(.b z2))],[],H0⟩)
theorem nr(v0_8:Nat)(o:Nat⊕(Nat⊕(Nat×Bool)))(h:gY a0 v0_8=some o):bG E0 zB (oa a0) (ob a0) v0_8 o:=
 bP (.or (bt<|ao (.n v0_8)<|xI fun y2=>xB fun r4=>oN (ao (.i ((v0_8+1:Nat):Int))<|.nil)) (bf<|.nil)) fun L=>bZ h (fun h1 h=>ai (decide_eq_true h1)<|ai (rI v0_8)<|aZ h fun y2 h3 h=>ai (aD (I) h3)<|aP h (yG y2) fun r4 h=>ba h (fun h6 h=>ai h6<|L h) (fun h6 h=>ai h6<|aW h fun w7 h=>ai w7<|L h)) (fun h1 h=>ai (decide_eq_false h1)<|L h)
abbrev pc(a0:(List Int))(r:Int):aX×HP:=(.ret (I r),H0)
def ja:Option Int:=
 (lp (fun v=>gY a0 v) 0).bind fun (x1:(Nat⊕(Nat×Bool)))=>match x1 with
 | .inl ya_2=>
  some (ya_2:Int)
 | .inr yb_2=>
  some (-1)
theorem nu(r:Int)(h:ja a0=some r):call G Ω0 E0 98 [(.l 3 (a0.map (I))),(.f 56 [])] H0=some (pc a0 r):=
 aF JH (ao (.i (a0.length:Int))<|.or (.ex fun (ya_2:Nat)=>ao (.lp .ret ⟨[(4,(I (ya_2:Int)))],[],H0⟩)<|.nil) (.ex fun (yb_2:(Nat×Bool))=>ao (.lp (.ex 0) ⟨[(0,(.l 3 (a0.map (I)))),(1,(.f 56 [])),(7,(I (a0.length:Int))),(8,(I (yb_2.1:Int))),(9,(.b yb_2.2))],[],H0⟩)<|.nil)) fun L=>ai (aL (I) a0)<|cZ h (ek (nr a0) 0) (fun ya_2 h=>L h) (fun yb_2 h=>L h)
abbrev nv(a0:(List Int))(r:Bool):aX×HP:=(.ret (.b r),H0)
def ef:Option Bool:=
 (ja a0).bind fun (r1:Int)=>
 some (decide (0≤r1))
theorem l3(r:Bool)(h:ef a0=some r):call G Ω0 E0 55 [(.l 3 (a0.map (I))),(.f 56 [])] H0=some (nv a0 r):=
 aF JG (xI fun r1=>.nil) fun L=>aP h (nu a0) fun r1 h=>L h
abbrev Eu(a0:(List Int))(r:Bool):aX×HP:=(.ret (.b r),H0)
def pF:Option Bool:=
 (ef a0).bind fun (r1:Bool)=>
 some r1
theorem AR(r:Bool)(h:pF a0=some r):call G Ω0 E0 54 [(.l 3 (a0.map (I)))] H0=some (Eu a0 r):=
 aF G54 (xB fun r1=>.nil) fun L=>aP h (l3 a0) fun r1 h=>L h
end
section
variable (a0:(List (List Int)))
def jc(v0_8:Nat):Option (Nat⊕(Nat⊕(Nat×Bool))):=
 if (v0_8:Int)<(a0.length:Int) then
  (a0[v0_8]?).bind fun (y2:(List Int))=>
  (pF y2).bind fun (r4:Bool)=>
  if r4=true then
   some (.inr (.inl v0_8))
  else
   if IntKind.i64.wrap ((v0_8:Int)+1)=((v0_8+1:Nat):Int) then
    some (.inl (v0_8+1))
   else none
 else
  some (.inr (.inr (v0_8,decide ((v0_8:Int)<(a0.length:Int)))))
abbrev pd(v:Nat):St:=⟨[(0,(.l 25 (a0.map (bB 3 (I))))),(1,(.f 54 [])),(7,(I (a0.length:Int))),(8,(I (v:Int)))],[],H0⟩
abbrev pf(x:(Nat⊕(Nat×Bool))):aQ×St:=match x with | .inl z1=>(.ret,⟨[(4,(I (z1:Int)))],[],H0⟩) | .inr (z1,z2)=>((.ex 0),⟨[(0,(.l 25 (a0.map (bB 3 (I))))),(1,(.f 54 [])),(7,(I (a0.length:Int))),(8,(I (z1:Int))),(9,(.b z2))],[],H0⟩)
theorem oQ(v0_8:Nat)(o:Nat⊕(Nat⊕(Nat×Bool)))(h:jc a0 v0_8=some o):bG E0 Ip (pd a0) (pf a0) v0_8 o:=
 bP (.or (bt<|ao (.n v0_8)<|.ex fun (y2:(List Int))=>ao (.v (.l 3 (y2.map (I))))<|xB fun r4=>oN (ao (.i ((v0_8+1:Nat):Int))<|.nil)) (bf<|.nil)) fun L=>bZ h (fun h1 h=>ai (decide_eq_true h1)<|ai (rI v0_8)<|aZ h fun y2 h3 h=>ai (aD (bB 3 (I)) h3)<|aP h (AR y2) fun r4 h=>ba h (fun h6 h=>ai h6<|L h) (fun h6 h=>ai h6<|aW h fun w7 h=>ai w7<|L h)) (fun h1 h=>ai (decide_eq_false h1)<|L h)
abbrev qn(a0:(List (List Int)))(r:Int):aX×HP:=(.ret (I r),H0)
def jV:Option Int:=
 (lp (fun v=>jc a0 v) 0).bind fun (x1:(Nat⊕(Nat×Bool)))=>match x1 with
 | .inl ya_2=>
  some (ya_2:Int)
 | .inr yb_2=>
  some (-1)
theorem oR(r:Int)(h:jV a0=some r):call G Ω0 E0 97 [(.l 25 (a0.map (bB 3 (I)))),(.f 54 [])] H0=some (qn a0 r):=
 aF YJ (ao (.i (a0.length:Int))<|.or (.ex fun (ya_2:Nat)=>ao (.lp .ret ⟨[(4,(I (ya_2:Int)))],[],H0⟩)<|.nil) (.ex fun (yb_2:(Nat×Bool))=>ao (.lp (.ex 0) ⟨[(0,(.l 25 (a0.map (bB 3 (I))))),(1,(.f 54 [])),(7,(I (a0.length:Int))),(8,(I (yb_2.1:Int))),(9,(.b yb_2.2))],[],H0⟩)<|.nil)) fun L=>ai (aL (bB 3 (I)) a0)<|cZ h (ek (oQ a0) 0) (fun ya_2 h=>L h) (fun yb_2 h=>L h)
abbrev oS(a0:(List (List Int)))(r:Bool):aX×HP:=(.ret (.b r),H0)
def eK:Option Bool:=
 (jV a0).bind fun (r1:Int)=>
 some (decide (0≤r1))
theorem mT(r:Bool)(h:eK a0=some r):call G Ω0 E0 52 [(.l 25 (a0.map (bB 3 (I)))),(.f 54 [])] H0=some (oS a0 r):=
 aF YH (xI fun r1=>.nil) fun L=>aP h (oR a0) fun r1 h=>L h
end
section
variable (a0:Program)(a1:(List (List Int)))(a2:Int)
abbrev GY(a0:Program)(a1:(List (List Int)))(a2:Int)(r:Int):aX×HP:=(.ret (I r),H0)
def rG:Option Int:=
 (pE a0).bind fun (r1:Int)=>
 if (r1 !=0)=true then
  some r1
 else
  if ((a1.length:Int) !=(a0.Ins.length:Int))=true then
   some 1
  else
   (eJ a1).bind fun (r5:Bool)=>
   if r5=true then
    some 2
   else
    (eK a1).bind fun (r8:Bool)=>
    if r8=true then
     some 3
    else
     if a2<0 then
      some 3
     else
      if 2000<a2 then
       some 3
      else
       some 0
theorem Dh(r:Int)(h:rG a0 a1 a2=some r):call G Ω0 E0 19 [(.a (aA a0)),(.l 25 (a1.map (bB 3 (I)))),(I a2)] H0=some (GY a0 a1 a2 r):=
 aF G19 (bt<|xI fun r1=>oN (ao (.i (a1.length:Int))<|bt<|ao (.i (a0.Ins.length:Int))<|oN (xB fun r5=>oN (xB fun r8=>.or (bf<|bf<|bt<|bf<|bf<|bt<|bt<|.nil) (bt<|bt<|bf<|.or (bf<|bf<|bt<|bt<|.nil) (bt<|bt<|bf<|oN (.nil))))))) fun L=>tD<|aP h (AP a0) fun r1 h=>ba h (fun h3 h=>ai h3<|L h) (fun h3 h=>ai h3<|ai (aL (bB 3 (I)) a1)<|ai (rfl:Z0)<|ai (aL av a0.Ins)<|ba h (fun h4 h=>ai h4<|L h) (fun h4 h=>ai h4<|aP h (mS a1) fun r5 h=>ba h (fun h7 h=>ai h7<|L h) (fun h7 h=>ai h7<|aP h (mT a1) fun r8 h=>ba h (fun h10 h=>ai (g0 h10)<|ai (g0 h10)<|ai h10<|ai ht<|ai ht<|ai tt<|ai tt<|L h) (fun h10 h=>Fh h10<|bZ h (fun h11 h=>ai (g0 (decide_eq_true h11))<|ai (g0 (decide_eq_true h11))<|ai (decide_eq_true h11)<|ai tt<|L h) (fun h11 h=>Fh (decide_eq_false h11)<|bZ h (fun h12 h=>ai (decide_eq_true h12)<|L h) (fun h12 h=>ai (decide_eq_false h12)<|L h))))))
end
section
variable (dp:Nat)(hp:HP)(k0:Key)
abbrev Fy(dp:Nat)(hp:HP)(k0:Key)(a0:Stmt)(a1:Int)(c0:Int)(r:(Bool×Int)):aX×HP:=(.ret (.b r.1),ad hp k0 [(I r.2)])
def tT(a0:Stmt)(a1:Int)(c0:Int):Option (Bool×Int):=
 if IntKind.i64.wrap (c0+1)=c0+1 then
  some (true,(c0+1))
 else none
theorem B3(hk_k0:k0.dp<dp)(hz:aO dp hp)(a0:Stmt)(a1:Int)(c0:Int)(r:(Bool×Int))(h:tT a0 a1 c0=some r):call G Ω0 ⟨dp,false⟩ 100 [(.a (ah a0)),(I a1),(.p k0 0)] (ad hp k0 [(I c0)])=some (Fy dp hp k0 a0 a1 c0 r):=
 aF Zo (bf<|ao (.l [(I c0)])<|ao (.i (c0+1))<|bf<|ao (.l [(I c0)])<|bf<|ao (.h (ad hp k0 [(I (c0+1))]))<|.nil) fun L=>ai ((by simp [ah,AV.aG,AV.aI,AV.deep,AV.bz,aj hk_k0,Nat.le_of_lt hk_k0]):(((.a (ah a0)):AV).deep dp&&(([(0,(.a (ah a0))),(1,(I a1)),(2,(.p k0 0))]:List (Nat×AV)).all (fun y=>y.2.aG ⟨dp,3⟩)&&([]:List (Nat×List AV)).all (fun y=>AV.aI ⟨dp,3⟩ y.2)))=true)<|ai (Nat.ne_of_lt hk_k0)<|ai (aN hp k0 [(I c0)])<|aW h fun w1 h=>ai w1<|ai ff<|ai (Nat.ne_of_lt hk_k0)<|ai (aN hp k0 [(I c0)])<|ai tt<|ai (Nat.ne_of_lt hk_k0)<|ai (bh hp k0 [(I c0)] [(I (c0+1))])<|L h
end
section
variable (dp:Nat)(hp:HP)(k0:Key)(a0:(List Stmt))(a1:Int)(c0:Int)
abbrev tU(dp:Nat)(hp:HP)(k0:Key)(a0:(List Stmt))(a1:Int)(c0:Int)(r:(Bool×Int)):aX×HP:=(.ret (.b r.1),ad hp k0 [(I r.2)])
abbrev jC(r:(Bool×Int)):Prop:=call G Ω0 ⟨dp,false⟩ 99 [(.l 88 (a0.map aH)),(I a1),(.f 100 [(.p k0 0)])] (ad hp k0 [(I c0)])=some (tU dp hp k0 a0 a1 c0 r)
end
structure jD where
 f_scope_Walk__run_Many_1:(List Stmt)→Int→Int→Option (Bool×Int)
structure iR(R:jD):Prop where
 f_scope_Walk__run_Many_1:∀ (dp:Nat)(hp:HP)(k0:Key)(hk_k0:k0.dp<dp)(hz:aO dp hp)(a0:(List Stmt))(a1:Int)(c0:Int)(r:(Bool×Int)),R.f_scope_Walk__run_Many_1 a0 a1 c0=some r→jC dp hp k0 a0 a1 c0 r
section
variable (R:jD)(a0:(List Stmt))(a1:Int)(dp:Nat)(hp:HP)(k0:Key)(c0:Int)
def eZ(v0_11:Nat)(v0_k0_0:Int):Option ((Nat×Int)⊕(Int⊕(Nat×Bool×Int))):=
 if (v0_11:Int)<(a0.length:Int) then
  (a0[v0_11]?).bind fun (y2:Stmt)=>
  (tT y2 a1 v0_k0_0).bind fun (r4:(Bool×Int))=>
  if r4.1=true then
   if IntKind.i64.wrap (a1+1)=a1+1 then
    (R.f_scope_Walk__run_Many_1 y2.Then (a1+1) r4.2).bind fun (r8:(Bool×Int))=>
    if r8.1=true then
     (R.f_scope_Walk__run_Many_1 y2.Else (a1+1) r8.2).bind fun (r11:(Bool×Int))=>
     if r11.1=true then
      if IntKind.i64.wrap ((v0_11:Int)+1)=((v0_11+1:Nat):Int) then
       some (.inl (v0_11+1,r11.2))
      else none
     else
      some (.inr (.inl r11.2))
    else
     some (.inr (.inl r8.2))
   else none
  else
   some (.inr (.inl r4.2))
 else
  some (.inr (.inr (v0_11,decide ((v0_11:Int)<(a0.length:Int)),v0_k0_0)))
abbrev sE(dp:Nat)(hp:HP)(k0:Key)(a0:(List Stmt))(a1:Int)(v:(Nat×Int)):St:=⟨[(1,(I a1)),(2,(.f 100 [(.p k0 0)])),(9,(.l 88 (a0.map aH))),(10,(I (a0.length:Int))),(11,(I (v.1:Int)))],[],ad hp k0 [(I v.2)]⟩
abbrev sF(dp:Nat)(hp:HP)(k0:Key)(a0:(List Stmt))(a1:Int)(x:(Int⊕(Nat×Bool×Int))):aQ×St:=match x with | .inl z1=>(.ret,⟨[(6,(.b false))],[],ad hp k0 [(I z1)]⟩) | .inr (z1,z2,z3)=>((.ex 0),⟨[(1,(I a1)),(2,(.f 100 [(.p k0 0)])),(9,(.l 88 (a0.map aH))),(10,(I (a0.length:Int))),(11,(I (z1:Int))),(12,(.b z2))],[],ad hp k0 [(I z3)]⟩)
theorem sc(hR:iR R)(dp:Nat)(hp:HP)(k0:Key)(hk_k0:k0.dp<dp)(hz:aO dp hp)(a0:(List Stmt))(a1:Int)(v0_11:Nat)(v0_k0_0:Int)(o:(Nat×Int)⊕(Int⊕(Nat×Bool×Int)))(h:eZ R a0 a1 v0_11 v0_k0_0=some o):bG ⟨dp,false⟩ EM (sE dp hp k0 a0 a1) (sF dp hp k0 a0 a1) (v0_11,v0_k0_0) o:=
 bP (.or (bt<|ao (.n v0_11)<|.ex fun (y2:Stmt)=>ao (.v (.a (ah y2)))<|dF<|.ex fun (r4:(Bool×Int))=>ao (.v (.b r4.1))<|ao (.h (boxes dp [(8,(ah y2))] (ad hp k0 [(I r4.2)])))<|ao (.bx [(8,(ah y2))])<|ao (.h (ad hp k0 [(I r4.2)]))<|.or (p9<|ao (.i (a1+1))<|dE<|.ex fun (r8:(Bool×Int))=>ao (.v (.b r8.1))<|ao (.h (boxes dp [(8,(ah y2))] (ad hp k0 [(I r8.2)])))<|ao (.bx [(8,(ah y2))])<|ao (.h (ad hp k0 [(I r8.2)]))<|kT<|.or (p9<|ao (.i (a1+1))<|dE<|.ex fun (r11:(Bool×Int))=>ao (.v (.b r11.1))<|ao (.h (boxes dp [(8,(ah y2))] (ad hp k0 [(I r11.2)])))<|ao (.bx [(8,(ah y2))])<|ao (.h (ad hp k0 [(I r11.2)]))<|kT<|.or (bf<|ao (.i ((v0_11+1:Nat):Int))<|.nil) (bt<|.nil)) (LX<|.nil)) (LY<|.nil)) (bf<|.nil)) fun L=>bZ h (fun h1 h=>ai (decide_eq_true h1)<|ai (rI v0_11)<|aZ h fun y2 h3 h=>ai (jr aH h3 (lJ _))<|ai ((by simp [ah,AV.aG,AV.aI,AV.deep,AV.bz,aj hk_k0,Nat.le_of_lt hk_k0]):(([(14,(.a (ah y2))),(13,(.e (.a (ah y2)) 0)),(1,(I a1)),(2,(.f 100 [(.p k0 0)])),(9,(.l 88 (a0.map aH))),(10,(I (a0.length:Int))),(11,(I (v0_11:Int)))]:List (Nat×AV)).all (fun y=>y.2.aG ⟨dp,8⟩)&&([]:List (Nat×List AV)).all (fun y=>AV.aI ⟨dp,8⟩ y.2))=true)<|ai ff<|ai (rN dp)<|ai tt<|ai (rN dp)<|ai (rN dp)<|js<|aZ h fun r4 ek5 h=>have ek5:=cO hk_k0 (B3 (dp+1) (boxes dp [(8,(ah y2))] (ad hp k0 [(I v0_k0_0)])) k0 (Nat.lt_succ_of_lt hk_k0) (aE (ab hk_k0 (hz))) y2 a1 v0_k0_0 _ ek5);ai ek5<|ai (dC ek5 (by kernel_rfl) (by kernel_rfl))<|ai (dD ek5 (ab hk_k0 (hz)))<|ba h (fun h6 h=>sr (congrArg not h6)<|ai (rN dp)<|sr (congrArg not h6)<|aW h fun w7 h=>ai w7<|CP (congrArg not h6)<|aZ h fun r8 ek9 h=>have ek9:=cO hk_k0 (hR.f_scope_Walk__run_Many_1 (dp+1) (boxes dp [(8,(ah y2))] (ad hp k0 [(I r4.2)])) k0 (Nat.lt_succ_of_lt hk_k0) (aE (ab hk_k0 (hz))) y2.Then (a1+1) r4.2 _ ek9);ai ek9<|ai (dC ek9 (by kernel_rfl) (by kernel_rfl))<|ai (dD ek9 (ab hk_k0 (hz)))<|qx (congrArg not h6)<|ba h (fun h10 h=>sr (congrArg not h10)<|ai (rN dp)<|sr (congrArg not h10)<|ai w7<|CP (congrArg not h10)<|aZ h fun r11 ek12 h=>have ek12:=cO hk_k0 (hR.f_scope_Walk__run_Many_1 (dp+1) (boxes dp [(8,(ah y2))] (ad hp k0 [(I r8.2)])) k0 (Nat.lt_succ_of_lt hk_k0) (aE (ab hk_k0 (hz))) y2.Else (a1+1) r8.2 _ ek12);ai ek12<|ai (dC ek12 (by kernel_rfl) (by kernel_rfl))<|ai (dD ek12 (ab hk_k0 (hz)))<|qx (congrArg not h10)<|ba h (fun h13 h=>ai (congrArg not h13)<|aW h fun w14 h=>ai w14<|L h) (fun h13 h=>ai (congrArg not h13)<|L h)) (fun h10 h=>LR (congrArg not h10)<|L h)) (fun h6 h=>LS (congrArg not h6)<|L h)) (fun h1 h=>ai (decide_eq_false h1)<|L h)
def fp:Option (Bool×Int):=
 (lp (fun v=>eZ R a0 a1 v.1 v.2) (0,c0)).bind fun (x1:(Int⊕(Nat×Bool×Int)))=>match x1 with
 | .inl ya_2=>
  some (false,ya_2)
 | .inr yb_2=>
  some (true,yb_2.2.2)
theorem rk(hR:iR R)(dp:Nat)(hp:HP)(k0:Key)(hk_k0:k0.dp<dp)(hz:aO dp hp)(a0:(List Stmt))(a1:Int)(c0:Int)(r:(Bool×Int))(h:fp R a0 a1 c0=some r):jC dp hp k0 a0 a1 c0 r:=
 aF RD (ao (.i (a0.length:Int))<|.or (.ex fun (ya_2:Int)=>ao (.lp .ret ⟨[(6,(.b false))],[],ad hp k0 [(I ya_2)]⟩)<|.nil) (.ex fun (yb_2:(Nat×Bool×Int))=>ao (.lp (.ex 0) ⟨[(1,(I a1)),(2,(.f 100 [(.p k0 0)])),(9,(.l 88 (a0.map aH))),(10,(I (a0.length:Int))),(11,(I (yb_2.1:Int))),(12,(.b yb_2.2.1))],[],ad hp k0 [(I yb_2.2.2)]⟩)<|.nil)) fun L=>ai (aL aH a0)<|cZ h (ek (fun v=>sc R hR dp hp k0 hk_k0 hz a0 a1 v.1 v.2) (0,c0)) (fun ya_2 h=>L h) (fun yb_2 h=>L h)
def dm:Nat→jD
 | 0=>⟨fun z0 z1 z2=>none⟩
 | n+1=>⟨fp (dm n)⟩
theorem mA:∀ n,iR (dm n)
 | 0=>⟨fun _ _ _ _ _ _ _ _ r h=>(by cases h)⟩
 | n+1=>⟨fun dp hp k0 hk_k0 hz a0 a1 c0 r h=>rk _ (mA n) dp hp k0 hk_k0 hz a0 a1 c0 r h⟩
def jE:Option (Bool×Int):=ev fun n=>(dm n).f_scope_Walk__run_Many_1 a0 a1 c0
theorem sd(hk_k0:k0.dp<dp)(hz:aO dp hp)(a0:(List Stmt))(a1:Int)(c0:Int)(r:(Bool×Int))(h:jE a0 a1 c0=some r):jC dp hp k0 a0 a1 c0 r:=by
 obtain ⟨n,hn⟩:=q8 h
 exact (mA n).f_scope_Walk__run_Many_1 dp hp k0 hk_k0 hz a0 a1 c0 r hn
abbrev IK(a0:(List Stmt))(r:Int):aX×HP:=(.ret (I r),H0)
def lO:Option Int:=
 (jE a0 1 0).bind fun (r1:(Bool×Int))=>
 some r1.2
theorem pG(r:Int)(h:lO a0=some r):call G Ω0 E0 58 [(.l 88 (a0.map aH))] H0=some (IK a0 r):=
 aF G58 (dE<|.ex fun (r1:(Bool×Int))=>ao (.v (.b r1.1))<|ao (.h (boxes 0 [(3,[(I r1.2)])] H0))<|ao (.bx [(3,[(I r1.2)])])<|ao (.h (H0))<|bt<|.nil) fun L=>ai tt<|ai ff<|ai (rfl:Z0)<|ai tt<|ai (rfl:Z0)<|ai ff<|ai tt<|aZ h fun r1 ek2 h=>have ek2:call G Ω0 ⟨0+1,false⟩ 99 [(.l 88 (a0.map aH)),(I 1),(.f 100 [(.p ⟨0,3⟩ 0)])] (boxes 0 [(3,[(I 0)])] H0)=some (.ret (.b r1.1),boxes 0 [(3,[(I r1.2)])] H0):=cT (cq (bx1:=[(3,[(I 0)])]) (by kernel_rfl) (by kernel_rfl)) (cq (bx1:=[(3,[(I r1.2)])]) (by kernel_rfl) (by kernel_rfl)) (sd (0+1) (boxes 0 [(3,[(I 0)])] H0) ⟨0,3⟩ (Nat.lt_succ_self 0) (aE (e8 0)) a0 1 0 _ ek2);ai ek2<|ai (dC ek2 (by kernel_rfl) (by kernel_rfl))<|ai (dD ek2 (e8 0))<|ai (rfl:Z0)<|L h
end
section
variable (a0:Program)(a1:(List (List Int)))(a2:Int)(dp:Nat)(hp:HP)(k0:Key)(c0:Runner)
def rH(a1:(List (List Int)))(a2:Int)(v0_8:Int)(v0_35:Nat)(v0_15_10:(List Int)):Option ((Int×Nat×(List Int))⊕(Int×Nat×Bool×(List Int))):=
 if (v0_35:Int)<(a0.Funcs.length:Int) then
  (a0.Funcs[v0_35]?).bind fun (y4:Func)=>
  if v0_15_10.length + [v0_8].length≤1000000000 then
   (lO y4.Body).bind fun (r7:Int)=>
   if IntKind.i64.wrap (v0_8+r7)=v0_8+r7 then
    if IntKind.i64.wrap ((v0_35:Int)+1)=((v0_35+1:Nat):Int) then
     some (.inl (v0_8+r7,v0_35+1,v0_15_10++[v0_8]))
    else none
   else none
  else none
 else
  some (.inr (v0_8,v0_35,decide ((v0_35:Int)<(a0.Funcs.length:Int)),v0_15_10))
abbrev GZ(a0:Program)(a1:(List (List Int)))(a2:Int)(v:(Int×Nat×(List Int))):St:=⟨[(7,(.p ⟨dp,15⟩ 0)),(8,(I v.1)),(33,(.l 112 (a0.Funcs.map a7))),(34,(I (a0.Funcs.length:Int))),(35,(I (v.2.1:Int)))],[(15,[(I a0.af.Many),(.l 136 (a0.af.Grants.map az)),(.l 3 (a0.Speak.map (I))),(.l 49 (a0.Ins.map av)),(.l 49 (a0.Outs.map av)),(.l 51 (a0.Vars.map bm)),(.l 112 (a0.Funcs.map a7)),(.l 88 (a0.Main.map aH)),(.l 25 (a1.map (bB 3 (I)))),(I a2),(.o 3 (v.2.2.map (I))),(.o 106 (([]:List Event).map bL)),(.o 3 ((List.replicate a0.Vars.length 0).map (I))),(.o 3 ((List.replicate a0.Ins.length 0).map (I))),(I 0),(I 0),(I 0)])],hp⟩
abbrev G0(a0:Program)(a1:(List (List Int)))(a2:Int)(x:(Int×Nat×Bool×(List Int))):aQ×St:=((.ex 0),⟨[(7,(.p ⟨dp,15⟩ 0)),(8,(I x.1)),(33,(.l 112 (a0.Funcs.map a7))),(34,(I (a0.Funcs.length:Int))),(35,(I (x.2.1:Int))),(36,(.b x.2.2.1))],[(15,[(I a0.af.Many),(.l 136 (a0.af.Grants.map az)),(.l 3 (a0.Speak.map (I))),(.l 49 (a0.Ins.map av)),(.l 49 (a0.Outs.map av)),(.l 51 (a0.Vars.map bm)),(.l 112 (a0.Funcs.map a7)),(.l 88 (a0.Main.map aH)),(.l 25 (a1.map (bB 3 (I)))),(I a2),(.o 3 (x.2.2.2.map (I))),(.o 106 (([]:List Event).map bL)),(.o 3 ((List.replicate a0.Vars.length 0).map (I))),(.o 3 ((List.replicate a0.Ins.length 0).map (I))),(I 0),(I 0),(I 0)])],hp⟩)
theorem Fz(hz:aO dp hp)(a0:Program)(a1:(List (List Int)))(a2:Int)(v0_8:Int)(v0_35:Nat)(v0_15_10:(List Int))(o:(Int×Nat×(List Int))⊕(Int×Nat×Bool×(List Int)))(h:rH a0 a1 a2 v0_8 v0_35 v0_15_10=some o):bG ⟨dp,false⟩ ML (GZ dp hp a0 a1 a2) (G0 dp hp a0 a1 a2) (v0_8,v0_35,v0_15_10) o:=
 bP (.or (bt<|ao (.n v0_35)<|.ex fun (y4:Func)=>ao (.v (.a (ct y4)))<|dF<|ao (.l ([v0_8].map (I)))<|dF<|ao (.l ((v0_15_10++[v0_8]).map (I)))<|dF<|xI fun r7=>ao (.i (v0_8+r7))<|ao (.i ((v0_35+1:Nat):Int))<|.nil) (bf<|.nil)) fun L=>bZ h (fun h3 h=>ai (decide_eq_true h3)<|ai (rI v0_35)<|aZ h fun y4 h5 h=>ai (aD a7 h5)<|ai ((by simp [ct,AV.aG,AV.aI,AV.deep,AV.bz]):(([(38,(.a (ct y4))),(37,(.e (.a (ct y4)) 0)),(7,(.p ⟨dp,15⟩ 0)),(8,(I v0_8)),(33,(.l 112 (a0.Funcs.map a7))),(34,(I (a0.Funcs.length:Int))),(35,(I (v0_35:Int)))]:List (Nat×AV)).all (fun y=>y.2.aG ⟨dp,10⟩)&&([(15,[(I a0.af.Many),(.l 136 (a0.af.Grants.map az)),(.l 3 (a0.Speak.map (I))),(.l 49 (a0.Ins.map av)),(.l 49 (a0.Outs.map av)),(.l 51 (a0.Vars.map bm)),(.l 112 (a0.Funcs.map a7)),(.l 88 (a0.Main.map aH)),(.l 25 (a1.map (bB 3 (I)))),(I a2),(.o 3 (v0_15_10.map (I))),(.o 106 (([]:List Event).map bL)),(.o 3 ((List.replicate a0.Vars.length 0).map (I))),(.o 3 ((List.replicate a0.Ins.length 0).map (I))),(I 0),(I 0),(I 0)])]:List (Nat×List AV)).all (fun y=>AV.aI ⟨dp,10⟩ y.2))=true)<|ai ff<|ai (rN dp)<|ai tt<|ai (rN dp)<|ai (rN dp)<|ai (rfl:[(I v0_8)]=[v0_8].map (I))<|ai ff<|ai (rN dp)<|ai (rN dp)<|ai (rN dp)<|aW h fun h6 h=>ai ((gw (I) (n:=1) (fun _=>rfl) [v0_8]):([v0_8].map (I)).all (fun e=>e.nc==1)=true)<|ai ((kO h6 (by decide)):((v0_15_10.map (I)).length+([v0_8].map (I)).length)*8≤140737488355328)<|ai ((kP h6):(v0_15_10.map (I)).length+([v0_8].map (I)).length≤maxLen)<|ai (List.map_append.symm:v0_15_10.map (I)++[v0_8].map (I)=(v0_15_10++[v0_8]).map (I))<|ai ff<|ai (rN dp)<|ai (rN dp)<|ai (rN dp)<|aP h (pG y4.Body) fun r7 h=>aW h fun w9 h=>ai w9<|aW h fun w10 h=>ai w10<|L h) (fun h3 h=>ai (decide_eq_false h3)<|L h)
abbrev JS(dp:Nat)(hp:HP)(a0:Program)(a1:(List (List Int)))(a2:Int)(r:Runner):aX×HP:=(.new (aa r),hp)
def ve:Option Runner:=
 if a0.Vars.length≤1000000000 then
  if a0.Ins.length≤1000000000 then
   (lp (fun v=>rH a0 a1 a2 v.1 v.2.1 v.2.2) (0,0,([]:List Int))).bind fun (x3:(Int×Nat×Bool×(List Int)))=>
   if x3.2.2.2.length + [x3.1].length≤1000000000 then
    some (⟨a0,a1,a2,x3.2.2.2++[x3.1],(⟨([]:List Event),List.replicate a0.Vars.length 0,List.replicate a0.Ins.length 0,0,0,0⟩:RunT)⟩:Runner)
   else none
  else none
 else none
theorem FA(hz:aO dp hp)(a0:Program)(a1:(List (List Int)))(a2:Int)(r:Runner)(h:ve a0 a1 a2=some r):call G Ω0 ⟨dp,false⟩ 20 [(.a (aA a0)),(.l 25 (a1.map (bB 3 (I)))),(I a2)] hp=some (JS dp hp a0 a1 a2 r):=
 Hs G20 (RZ<|ao (.i (a0.Vars.length:Int))<|ao (.n a0.Vars.length)<|ao (.l ((List.replicate a0.Vars.length 0).map (I)))<|bt<|ao (.i (a0.Ins.length:Int))<|ao (.n a0.Ins.length)<|ao (.l ((List.replicate a0.Ins.length 0).map (I)))<|p9<|ao (.i (a0.Funcs.length:Int))<|.ex fun (x3:(Int×Nat×Bool×(List Int)))=>ao (.lp (.ex 0) ⟨[(7,(.p ⟨dp,15⟩ 0)),(8,(I x3.1)),(33,(.l 112 (a0.Funcs.map a7))),(34,(I (a0.Funcs.length:Int))),(35,(I (x3.2.1:Int))),(36,(.b x3.2.2.1))],[(15,[(I a0.af.Many),(.l 136 (a0.af.Grants.map az)),(.l 3 (a0.Speak.map (I))),(.l 49 (a0.Ins.map av)),(.l 49 (a0.Outs.map av)),(.l 51 (a0.Vars.map bm)),(.l 112 (a0.Funcs.map a7)),(.l 88 (a0.Main.map aH)),(.l 25 (a1.map (bB 3 (I)))),(I a2),(.o 3 (x3.2.2.2.map (I))),(.o 106 (([]:List Event).map bL)),(.o 3 ((List.replicate a0.Vars.length 0).map (I))),(.o 3 ((List.replicate a0.Ins.length 0).map (I))),(I 0),(I 0),(I 0)])],hp⟩)<|bt<|ao (.l ([x3.1].map (I)))<|dF<|ao (.l ((x3.2.2.2++[x3.1]).map (I)))<|dE<|.nil) fun L=>ai tt<|ai (rN dp)<|ai ((by simp [aA,AV.aG,AV.aI,AV.deep,AV.bz]):(((.a [(I a0.af.Many),(.l 136 (a0.af.Grants.map az)),(.l 3 (a0.Speak.map (I))),(.l 49 (a0.Ins.map av)),(.l 49 (a0.Outs.map av)),(.l 51 (a0.Vars.map bm)),(.l 112 (a0.Funcs.map a7)),(.l 88 (a0.Main.map aH)),(.l 25 (a1.map (bB 3 (I)))),(I a2),.n,.n,.n,.n,(I 0),(I 0),(I 0)]):AV).deep dp&&(([(14,(.a [(I a0.af.Many),(.l 136 (a0.af.Grants.map az)),(.l 3 (a0.Speak.map (I))),(.l 49 (a0.Ins.map av)),(.l 49 (a0.Outs.map av)),(.l 51 (a0.Vars.map bm)),(.l 112 (a0.Funcs.map a7)),(.l 88 (a0.Main.map aH)),(.l 25 (a1.map (bB 3 (I)))),(I a2),.n,.n,.n,.n,(I 0),(I 0),(I 0)])),(13,(I a2)),(12,(.l 25 (a1.map (bB 3 (I))))),(11,(.a (aA a0))),(1,(.l 25 (a1.map (bB 3 (I))))),(2,(I a2)),(3,(.p ⟨dp,3⟩ 0))]:List (Nat×AV)).all (fun y=>y.2.aG ⟨dp,15⟩)&&([(3,(aA a0))]:List (Nat×List AV)).all (fun y=>AV.aI ⟨dp,15⟩ y.2)))=true)<|ai ff<|ai (rN dp)<|ai (rN dp)<|ai ff<|ai (rN dp)<|ai (rN dp)<|ai ff<|ai (rN dp)<|ai (rN dp)<|ai ff<|ai (rN dp)<|ai (rN dp)<|ai ((by simp [aA,eB,ay,AV.aG,AV.aI,AV.bJ]):(([21,25]:List Nat).all (eB dp (⟨[(3,(.p ⟨dp,3⟩ 0)),(7,(.p ⟨dp,15⟩ 0))],[(3,(aA a0)),(15,[(I a0.af.Many),(.l 136 (a0.af.Grants.map az)),(.l 3 (a0.Speak.map (I))),(.l 49 (a0.Ins.map av)),(.l 49 (a0.Outs.map av)),(.l 51 (a0.Vars.map bm)),(.l 112 (a0.Funcs.map a7)),(.l 88 (a0.Main.map aH)),(.l 25 (a1.map (bB 3 (I)))),(I a2),(.o 3 (([]:List Int).map (I))),(.o 106 (([]:List Event).map bL)),(.o 3 (([]:List Int).map (I))),(.o 3 (([]:List Int).map (I))),(I 0),(I 0),(I 0)])],H0⟩:St))&&true)=true)<|ai ((by simp [aY,okB,cg,AV.aG,AV.aI,AV.bJ]):(aY dp [21,25] (.p ⟨dp,15⟩ 0)&&okB dp [15] (.p ⟨dp,15⟩ 0))=true)<|ai ((by simp [aY,okB,cg,AV.aG,AV.aI,AV.bJ]):(aY dp [21,25] (.p ⟨dp,15⟩ 0)&&okB dp [15] (.p ⟨dp,15⟩ 0))=true)<|ai ((by simp [aY,okB,cg,AV.aG,AV.aI,AV.bJ]):(aY dp [21,25] (.p ⟨dp,3⟩ 5)&&okB dp [15] (.p ⟨dp,3⟩ 5))=true)<|ai (rN dp)<|ai tt<|ai (aL bm a0.Vars)<|ai tt<|ai (rfl:(a0.Vars.length:Int)=(a0.Vars.length:Int))<|aW h fun h1 h=>ai ((Bx h1 (by decide)):a0.Vars.length*8≤140737488355328)<|ai ((By h1):a0.Vars.length≤maxLen)<|ai ((List.map_replicate ..).symm:List.replicate a0.Vars.length (I 0)=(List.replicate a0.Vars.length 0).map (I))<|ai tt<|ai ((by simp [aY,okB,cg,AV.aG,AV.aI,AV.bJ]):(aY dp [21,25] (.p ⟨dp,3⟩ 3)&&okB dp [15] (.p ⟨dp,3⟩ 3))=true)<|ai (rN dp)<|ai tt<|ai (aL av a0.Ins)<|ai tt<|ai (rfl:(a0.Ins.length:Int)=(a0.Ins.length:Int))<|aW h fun h2 h=>ai ((Bx h2 (by decide)):a0.Ins.length*8≤140737488355328)<|ai ((By h2):a0.Ins.length≤maxLen)<|ai ((List.map_replicate ..).symm:List.replicate a0.Ins.length (I 0)=(List.replicate a0.Ins.length 0).map (I))<|ai tt<|ai ((by simp [aY,okB,cg,AV.aG,AV.aI,AV.bJ]):(aY dp [25] (.p ⟨dp,15⟩ 0)&&okB dp [15] (.p ⟨dp,15⟩ 0))=true)<|ai ((by simp [aY,okB,cg,AV.aG,AV.aI,AV.bJ]):(aY dp [25] (.p ⟨dp,15⟩ 11)&&okB dp [15] (.p ⟨dp,15⟩ 11))=true)<|ai ((by simp [aY,okB,cg,AV.aG,AV.aI,AV.bJ]):(aY dp [25] (.p ⟨dp,15⟩ 12)&&okB dp [15] (.p ⟨dp,15⟩ 12))=true)<|ai (rN dp)<|ai ff<|ai (rN dp)<|ai (rN dp)<|ai tt<|ai ff<|ai (rN dp)<|ai (rN dp)<|ai (rN dp)<|ai (aL a7 a0.Funcs)<|aP h (ek (fun v=>Fz dp hp hz a0 a1 a2 v.1 v.2.1 v.2.2) (0,0,([]:List Int))) fun x3 h=>ai (rN dp)<|ai (rfl:[(I x3.1)]=[x3.1].map (I))<|ai ff<|ai (rN dp)<|ai (rN dp)<|ai (rN dp)<|aW h fun h5 h=>ai ((gw (I) (n:=1) (fun _=>rfl) [x3.1]):([x3.1].map (I)).all (fun e=>e.nc==1)=true)<|ai ((kO h5 (by decide)):((x3.2.2.2.map (I)).length+([x3.1].map (I)).length)*8≤140737488355328)<|ai ((kP h5):(x3.2.2.2.map (I)).length+([x3.1].map (I)).length≤maxLen)<|ai (List.map_append.symm:x3.2.2.2.map (I)++[x3.1].map (I)=(x3.2.2.2++[x3.1]).map (I))<|ai ff<|ai (rN dp)<|ai (rN dp)<|ai (rN dp)<|ai tt<|L h
abbrev z8(dp:Nat)(hp:HP)(k0:Key)(c0:Runner)(r:(Bool×Runner)):aX×HP:=(.ret (.b r.1),ad hp k0 (aa r.2))
def iC:Option (Bool×Runner):=
 if (c0.aK.Steps==c0.fuel)=true then
  some (false,(⟨c0.p,c0.ins,c0.fuel,c0.first,(⟨c0.aK.Events,c0.aK.Vars,c0.aK.Taken,c0.aK.Steps,2,c0.aK.Stop⟩:RunT)⟩:Runner))
 else
  if IntKind.i64.wrap (c0.aK.Steps+1)=c0.aK.Steps+1 then
   some (true,(⟨c0.p,c0.ins,c0.fuel,c0.first,(⟨c0.aK.Events,c0.aK.Vars,c0.aK.Taken,c0.aK.Steps+1,c0.aK.End,c0.aK.Stop⟩:RunT)⟩:Runner))
  else none
theorem qE(hk_k0:k0.dp<dp)(hz:aO dp hp)(c0:Runner)(r:(Bool×Runner))(h:iC c0=some r):call G Ω0 ⟨dp,false⟩ 102 [(.p k0 0)] (ad hp k0 (aa c0))=some (z8 dp hp k0 c0 r):=
 aF Zp (bf<|ao (.l (aa c0))<|bf<|ao (.l (aa c0))<|.or (kT<|ao (.l (aa c0))<|bf<|ao (.h (ad hp k0 ((aa c0).set 15 (I 2))))<|.nil) (bf<|bf<|ao (.l (aa c0))<|ao (.i (c0.aK.Steps+1))<|bf<|ao (.l (aa c0))<|bf<|ao (.h (ad hp k0 ((aa c0).set 14 (I (c0.aK.Steps+1)))))<|.nil)) fun L=>oD<|ai (Nat.ne_of_lt hk_k0)<|ai (aN hp k0 (aa c0))<|m4<|ai (Nat.ne_of_lt hk_k0)<|ai (aN hp k0 (aa c0))<|ai tt<|ba h (fun h1 h=>ai h1<|ai ff<|ai (Nat.ne_of_lt hk_k0)<|ai (aN hp k0 (aa c0))<|ai tt<|ai (Nat.ne_of_lt hk_k0)<|ai (bh hp k0 (aa c0) ((aa c0).set 15 (I 2)))<|L h) (fun h1 h=>ai h1<|ai (Nat.ne_of_lt hk_k0)<|ai (aN hp k0 (aa c0))<|aW h fun w2 h=>ai w2<|ai ff<|ai (Nat.ne_of_lt hk_k0)<|ai (aN hp k0 (aa c0))<|ai tt<|ai (Nat.ne_of_lt hk_k0)<|ai (bh hp k0 (aa c0) ((aa c0).set 14 (I (c0.aK.Steps+1))))<|L h)
end
section
variable (c0:Runner)(a0:Stmt)(dp:Nat)(hp:HP)(k0:Key)
def iS(v0_4:(List Int))(v0_12:Nat):Option (((List Int)×Nat)⊕((List Int)×Nat×Bool)):=
 if (v0_12:Int)<(a0.Args.length:Int) then
  (a0.Args[v0_12]?).bind fun (y2:aC)=>
  (kK y2 c0.aK.Vars).bind fun (r4:Int)=>
  if v0_4.length + [r4].length≤1000000000 then
   if IntKind.i64.wrap ((v0_12:Int)+1)=((v0_12+1:Nat):Int) then
    some (.inl (v0_4++[r4],v0_12+1))
   else none
  else none
 else
  some (.inr (v0_4,v0_12,decide ((v0_12:Int)<(a0.Args.length:Int))))
abbrev xk(c0:Runner)(a0:Stmt)(v:((List Int)×Nat)):St:=⟨[(0,(.p k0 0)),(3,(.p ⟨dp,3⟩ 0)),(4,(.o 3 (v.1.map (I)))),(10,(.l 86 (a0.Args.map aR))),(11,(I (a0.Args.length:Int))),(12,(I (v.2:Int)))],[(3,(ah a0))],ad hp k0 (aa c0)⟩
abbrev xl(c0:Runner)(a0:Stmt)(x:((List Int)×Nat×Bool)):aQ×St:=((.ex 0),⟨[(0,(.p k0 0)),(3,(.p ⟨dp,3⟩ 0)),(4,(.o 3 (x.1.map (I)))),(10,(.l 86 (a0.Args.map aR))),(11,(I (a0.Args.length:Int))),(12,(I (x.2.1:Int))),(13,(.b x.2.2))],[(3,(ah a0))],ad hp k0 (aa c0)⟩)
theorem wo(hk_k0:k0.dp<dp)(hz:aO dp hp)(c0:Runner)(a0:Stmt)(v0_4:(List Int))(v0_12:Nat)(o:((List Int)×Nat)⊕((List Int)×Nat×Bool))(h:iS c0 a0 v0_4 v0_12=some o):bG ⟨dp,false⟩ Jz (xk dp hp k0 c0 a0) (xl dp hp k0 c0 a0) (v0_4,v0_12) o:=
 bP (.or (bt<|ao (.n v0_12)<|.ex fun (y2:aC)=>ao (.v (.a (bA y2)))<|Hx<|ao (.l (aa c0))<|bf<|ao (.l (aa c0))<|xI fun r4=>ao (.l ([r4].map (I)))<|ao (.l ((v0_4++[r4]).map (I)))<|ao (.i ((v0_12+1:Nat):Int))<|.nil) (bf<|.nil)) fun L=>bZ h (fun h1 h=>ai (decide_eq_true h1)<|ai (rI v0_12)<|aZ h fun y2 h3 h=>ai (jr aR h3 (eN _))<|ai ((by simp [bA,ah,AV.aG,AV.aI,AV.deep,AV.bz,aj hk_k0,Nat.le_of_lt hk_k0]):(([(15,(.a (bA y2))),(14,(.e (.a (bA y2)) 0)),(0,(.p k0 0)),(3,(.p ⟨dp,3⟩ 0)),(4,(.o 3 (v0_4.map (I)))),(10,(.l 86 (a0.Args.map aR))),(11,(I (a0.Args.length:Int))),(12,(I (v0_12:Int)))]:List (Nat×AV)).all (fun y=>y.2.aG ⟨dp,6⟩)&&([(3,(ah a0))]:List (Nat×List AV)).all (fun y=>AV.aI ⟨dp,6⟩ y.2))=true)<|ai ff<|ai (rN dp)<|ai tt<|ai (rN dp)<|ai ((by simp [bA,ah,eB,ay,AV.aG,AV.aI,AV.bJ,aj hk_k0]):(([24]:List Nat).all (eB dp (⟨[(0,(.p k0 0)),(3,(.p ⟨dp,3⟩ 0)),(4,(.o 3 (v0_4.map (I)))),(6,(.p ⟨dp,6⟩ 0)),(10,(.l 86 (a0.Args.map aR))),(11,(I (a0.Args.length:Int))),(12,(I (v0_12:Int)))],[(3,(ah a0)),(6,(bA y2))],H0⟩:St))&&true)=true)<|ai tt<|ai (rN dp)<|ai tt<|ai (YO hk_k0 [24])<|ai (YO hk_k0 [24])<|ai ((by simp [aY,okB,cg,AV.aG,AV.aI,AV.bJ,aj hk_k0]):(aY dp [24] (.p k0 11)&&okB dp [] (.p k0 11))=true)<|ai ((by simp [aY,okB,cg,AV.aG,AV.aI,AV.bJ,aj hk_k0]):(aY dp [24] (.p k0 12)&&okB dp [] (.p k0 12))=true)<|ai (Nat.ne_of_lt hk_k0)<|ai (aN hp k0 (aa c0))<|ai ((by simp [aY,okB,cg,AV.aG,AV.aI,AV.bJ,aj hk_k0]):(aY dp [24] (.r (.c k0 12))&&okB dp [] (.r (.c k0 12)))=true)<|ai (Nat.ne_of_lt hk_k0)<|ai (aN hp k0 (aa c0))<|aP h (nV y2 c0.aK.Vars) fun r4 h=>qR<|ai (rfl:[(I r4)]=[r4].map (I))<|ai tt<|ai ff<|aW h fun h6 h=>ai ((gw (I) (n:=1) (fun _=>rfl) [r4]):([r4].map (I)).all (fun e=>e.nc==1)=true)<|ai ((kO h6 (by decide)):((v0_4.map (I)).length+([r4].map (I)).length)*8≤140737488355328)<|ai ((kP h6):(v0_4.map (I)).length+([r4].map (I)).length≤maxLen)<|ai (List.map_append.symm:v0_4.map (I)++[r4].map (I)=(v0_4++[r4]).map (I))<|aW h fun w7 h=>ai w7<|L h) (fun h1 h=>ai (decide_eq_false h1)<|L h)
def iT(c0:Runner)(x1:((List Int)×Nat×Bool))(y5:Func)(v1_38:Nat)(v1_k0_12:(List Int)):Option ((Nat×(List Int))⊕(Nat×Bool×(List Int))):=
 if (v1_38:Int)<(y5.Params.length:Int) then
  (y5.Params[v1_38]?).bind fun (y8:Int)=>
  (x1.1[v1_38]?).bind fun (y10:Int)=>
  (cQ y8).bind fun (j12:Nat)=>
  (v1_k0_12[j12]?).bind fun (y14:Int)=>
  if IntKind.i64.wrap ((v1_38:Int)+1)=((v1_38+1:Nat):Int) then
   some (.inl (v1_38+1,v1_k0_12.set j12 y10))
  else none
 else
  some (.inr (v1_38,decide ((v1_38:Int)<(y5.Params.length:Int)),v1_k0_12))
abbrev xm(dp:Nat)(hp:HP)(k0:Key)(c0:Runner)(x1:((List Int)×Nat×Bool))(y5:Func)(v:(Nat×(List Int))):St:=⟨[(0,(.p k0 0)),(4,(.o 3 (x1.1.map (I)))),(36,(.l 3 (y5.Params.map (I)))),(37,(I (y5.Params.length:Int))),(38,(I (v.1:Int)))],[],ad hp k0 ((br c0).set 12 (.o 3 (v.2.map (I))))⟩
abbrev xn(dp:Nat)(hp:HP)(k0:Key)(c0:Runner)(x1:((List Int)×Nat×Bool))(y5:Func)(x:(Nat×Bool×(List Int))):aQ×St:=((.ex 2),⟨[(0,(.p k0 0)),(4,(.o 3 (x1.1.map (I)))),(36,(.l 3 (y5.Params.map (I)))),(37,(I (y5.Params.length:Int))),(38,(I (x.1:Int))),(39,(.b x.2.1))],[],ad hp k0 ((br c0).set 12 (.o 3 (x.2.2.map (I))))⟩)
theorem wq(hk_k0:k0.dp<dp)(hz:aO dp hp)(c0:Runner)(x1:((List Int)×Nat×Bool))(y5:Func)(v1_38:Nat)(v1_k0_12:(List Int))(o:(Nat×(List Int))⊕(Nat×Bool×(List Int)))(h:iT c0 x1 y5 v1_38 v1_k0_12=some o):bG ⟨dp,false⟩ JA (xm dp hp k0 c0 x1 y5) (xn dp hp k0 c0 x1 y5) (v1_38,v1_k0_12) o:=
 bP (.or (bt<|ao (.n v1_38)<|xI fun y8=>bf<|ao (.l ((br c0).set 12 (.o 3 (v1_k0_12.map (I)))))<|ao (.n v1_38)<|xI fun y10=>ao (.v (I y10))<|xN fun j12=>bf<|ao (.l ((br c0).set 12 (.o 3 (v1_k0_12.map (I)))))<|xI fun y14=>bf<|ao (.l ((br c0).set 12 (.o 3 (v1_k0_12.map (I)))))<|ao (.v (I y14))<|ao (.l ((v1_k0_12.set j12 y10).map (I)))<|bf<|ao (.l ((br c0).set 12 (.o 3 (v1_k0_12.map (I)))))<|bf<|ao (.h (ad hp k0 ((br c0).set 12 (.o 3 ((v1_k0_12.set j12 y10).map (I))))))<|ao (.i ((v1_38+1:Nat):Int))<|.nil) (bf<|.nil)) fun L=>bZ h (fun h7 h=>ai (decide_eq_true h7)<|ai (rI v1_38)<|aZ h fun y8 h9 h=>ai (aD (I) h9)<|oD<|ai (Nat.ne_of_lt hk_k0)<|ai (aN hp k0 ((br c0).set 12 (.o 3 (v1_k0_12.map (I)))))<|m4<|ai (rI v1_38)<|aZ h fun y10 h11 h=>ai (aD (I) h11)<|ai tt<|ai (aD (I) h11)<|ai tt<|eS h fun j12 h13 h=>ai h13<|ai (Nat.ne_of_lt hk_k0)<|ai (aN hp k0 ((br c0).set 12 (.o 3 (v1_k0_12.map (I)))))<|aZ h fun y14 h15 h=>ai (aD (I) h15)<|ai ff<|ai (Nat.ne_of_lt hk_k0)<|ai (aN hp k0 ((br c0).set 12 (.o 3 (v1_k0_12.map (I)))))<|ai (aD (I) h15)<|ai (map_set .. : (v1_k0_12.map (I)).set j12 (I y10)=(v1_k0_12.set j12 y10).map (I))<|ai (Nat.ne_of_lt hk_k0)<|ai (aN hp k0 ((br c0).set 12 (.o 3 (v1_k0_12.map (I)))))<|ai (Nat.ne_of_lt hk_k0)<|ai (bh hp k0 ((br c0).set 12 (.o 3 (v1_k0_12.map (I)))) ((br c0).set 12 (.o 3 ((v1_k0_12.set j12 y10).map (I)))))<|aW h fun w16 h=>ai w16<|L h) (fun h7 h=>ai (decide_eq_false h7)<|L h)
abbrev yH(dp:Nat)(hp:HP)(k0:Key)(c0:Runner)(a0:Stmt)(r:Runner):aX×HP:=(.ret (.tp []),ad hp k0 (aa r))
def ku:Option Runner:=
 (lp (fun v=>iS c0 a0 v.1 v.2) (([]:List Int),0)).bind fun (x1:((List Int)×Nat×Bool))=>
 (cQ a0.Other).bind fun (j3:Nat)=>
 (c0.p.Funcs[j3]?).bind fun (y5:Func)=>
 (lp (fun v=>iT c0 x1 y5 v.1 v.2) (0,c0.aK.Vars)).bind fun (x7:(Nat×Bool×(List Int)))=>
 some (⟨c0.p,c0.ins,c0.fuel,c0.first,(⟨c0.aK.Events,x7.2.2,c0.aK.Taken,c0.aK.Steps,c0.aK.End,c0.aK.Stop⟩:RunT)⟩:Runner)
theorem wu(hk_k0:k0.dp<dp)(hz:aO dp hp)(c0:Runner)(a0:Stmt)(r:Runner)(h:ku c0 a0=some r):call G Ω0 ⟨dp,false⟩ 142 [(.p k0 0),(.a (ah a0))] (ad hp k0 (aa c0))=some (yH dp hp k0 c0 a0 r):=
 aF ZM (bt<|ao (.i (a0.Args.length:Int))<|.ex fun (x1:((List Int)×Nat×Bool))=>ao (.lp (.ex 0) ⟨[(0,(.p k0 0)),(3,(.p ⟨dp,3⟩ 0)),(4,(.o 3 (x1.1.map (I)))),(10,(.l 86 (a0.Args.map aR))),(11,(I (a0.Args.length:Int))),(12,(I (x1.2.1:Int))),(13,(.b x1.2.2))],[(3,(ah a0))],ad hp k0 (aa c0)⟩)<|bf<|ao (.l (aa c0))<|bt<|xN fun j3=>.ex fun (y5:Func)=>ao (.v (.a (ct y5)))<|ao (.i (y5.Params.length:Int))<|.ex fun (x7:(Nat×Bool×(List Int)))=>ao (.lp (.ex 2) ⟨[(0,(.p k0 0)),(4,(.o 3 (x1.1.map (I)))),(36,(.l 3 (y5.Params.map (I)))),(37,(I (y5.Params.length:Int))),(38,(I (x7.1:Int))),(39,(.b x7.2.1))],[],ad hp k0 ((br c0).set 12 (.o 3 (x7.2.2.map (I))))⟩)<|.nil) fun L=>ai ((by simp [ah,AV.aG,AV.aI,AV.deep,AV.bz,aj hk_k0,Nat.le_of_lt hk_k0]):(((.a (ah a0)):AV).deep dp&&(([(0,(.p k0 0)),(1,(.a (ah a0)))]:List (Nat×AV)).all (fun y=>y.2.aG ⟨dp,3⟩)&&([]:List (Nat×List AV)).all (fun y=>AV.aI ⟨dp,3⟩ y.2)))=true)<|ai (rN dp)<|ai (aL aR a0.Args)<|aP h (ek (fun v=>wo dp hp k0 hk_k0 hz c0 a0 v.1 v.2) (([]:List Int),0)) fun x1 h=>oD<|ai (Nat.ne_of_lt hk_k0)<|ai (aN hp k0 (aa c0))<|cR<|ai (rN dp)<|ai tt<|eS h fun j3 h4 h=>ai h4<|aZ h fun y5 h6 h=>ai (aD a7 h6)<|qR<|ai (aL (I) y5.Params)<|cR<|aP h (ek (fun v=>wq dp hp k0 hk_k0 hz c0 x1 y5 v.1 v.2) (0,c0.aK.Vars)) fun x7 h=>L h
end
end
end Go.Proofs.YtdpjofmmokaobaaGreat.A
