/- Functions of the program as plain functions, by program. -/
import Derived.Test.YtkkkkondjclcnaaGreatTypes
import Derived.Test.YtkkkkondjclcnaaGreatLift
set_option maxRecDepth 100000
set_option linter.unusedSectionVars false
set_option linter.unusedVariables false
set_option linter.unusedSimpArgs false
set_option linter.constructorNameAsVariable false
namespace Go.Proofs.YtkkkkondjclcnaaGreat.A
open Go
noncomputable section
variable [Lp]
section
variable (a0:aa)(a1:Int)
abbrev Je(a0:aa)(a1:Int)(r:Bool):aQ×HP:=(.ret (.b r),H0)
def jJ:Option Bool:=
 if 0≤a1 then
  some (decide (a1<a0.Many))
 else
  some false
theorem mb(r:Bool)(h:jJ a0 a1=some r):call G Ω0 E0 119 [(.a [(I a0.Many),(.l 166 (a0.Grants.map aB))]),(I a1)] H0=some (Je a0 a1 r):=
 aJ abJ (.or (MN<|.nil) (bf<|bf<|bf<|bf<|bf<|.nil)) fun L=>ai tt<|bZ h (fun h1 h=>bG (decide_eq_true h1)<|ai (g1 (decide_eq_true h1))<|ai (rfl:Z0)<|sj (decide_eq_true h1)<|L h) (fun h1 h=>bG (decide_eq_false h1)<|bG (decide_eq_false h1)<|ai (decide_eq_false h1)<|L h)
end
section
variable (a0:bc)(a1:aa)
abbrev BY(a0:bc)(a1:aa)(r:Bool):aQ×HP:=(.ret (.b r),H0)
def jY:Option Bool:=
 (jJ a1 a0.Who).bind fun (r1:Bool)=>
 if r1=true then
  (jJ a1 a0.For).bind fun (r4:Bool)=>
  some (!r4)
 else
  some true
theorem zE(r:Bool)(h:jY a0 a1=some r):call G Ω0 E0 153 [(.a [(I a0.Who),(I a0.For)]),(.e (.a [(I a1.Many),(.l 166 (a1.Grants.map aB))]) 0)] H0=some (BY a0 a1 r):=
 aJ ab3 (bt<|xB fun r1=>.or (tJ<|xB fun r4=>vu<|.nil) (bf<|bf<|bf<|bf<|bf<|bt<|.nil)) fun L=>dO<|aT h (mb a1 a0.Who) fun r1 h=>bE h (fun h3 h=>cP (congrArg not h3)<|ai (g0 (congrArg not h3))<|ai (rfl:Z0)<|ai (g0 (congrArg not h3))<|aT h (mb a1 a0.For) fun r4 h=>pL (congrArg not h3)<|L h) (fun h3 h=>cP (congrArg not h3)<|cP (congrArg not h3)<|pL (congrArg not h3)<|L h)
end
section
variable (a0:(List bc))(a1:aa)
def iF(v0_8:Nat):Option (Nat⊕(Nat⊕(Nat×Bool))):=
 if (v0_8:Int)<(a0.length:Int) then
  (a0[v0_8]?).bind fun (y2:bc)=>
  (jY y2 a1).bind fun (r4:Bool)=>
  if r4=true then
   some (.inr (.inl v0_8))
  else
   if IntKind.i64.wrap ((v0_8:Int)+1)=((v0_8+1:Nat):Int) then
    some (.inl (v0_8+1))
   else none
 else
  some (.inr (.inr (v0_8,decide ((v0_8:Int)<(a0.length:Int)))))
abbrev oo(v:Nat):St:=⟨[(0,(.l 166 (a0.map aB))),(1,(.f 153 [(.e (.a [(I a1.Many),(.l 166 (a1.Grants.map aB))]) 0)])),(7,(I (a0.length:Int))),(8,(I (v:Int)))],[],H0⟩
abbrev eg(x:(Nat⊕(Nat×Bool))):aI×St:=match x with | .inl z1=>(.ret,⟨[(4,(I (z1:Int)))],[],H0⟩) | .inr (z1,z2)=>((.ex 0),⟨[(0,(.l 166 (a0.map aB))),(1,(.f 153 [(.e (.a [(I a1.Many),(.l 166 (a1.Grants.map aB))]) 0)])),(7,(I (a0.length:Int))),(8,(I (z1:Int))),(9,(.b z2))],[],H0⟩)
theorem nW(v0_8:Nat)(o:Nat⊕(Nat⊕(Nat×Bool)))(h:iF a0 a1 v0_8=some o):bB E0 Mz (oo a0 a1) (eg a0 a1) v0_8 o:=
 bL (.or (bt<|ao (.n v0_8)<|.ex fun (y2:bc)=>ao (.v (.a [(I y2.Who),(I y2.For)]))<|xB fun r4=>oN (ao (.i ((v0_8+1:Nat):Int))<|.nil)) (bf<|.nil)) fun L=>bZ h (fun h1 h=>ai (decide_eq_true h1)<|ai (rI v0_8)<|bO h fun y2 h3 h=>ai (aU aB h3)<|aT h (zE y2 a1) fun r4 h=>bE h (fun h6 h=>ai h6<|L h) (fun h6 h=>ai h6<|aR h fun w7 h=>ai w7<|L h)) (fun h1 h=>ai (decide_eq_false h1)<|L h)
abbrev p5(a0:(List bc))(a1:aa)(r:Int):aQ×HP:=(.ret (I r),H0)
def jj:Option Int:=
 (lp (fun v=>iF a0 a1 v) 0).bind fun (x1:(Nat⊕(Nat×Bool)))=>match x1 with
 | .inl ya_2=>
  some (ya_2:Int)
 | .inr yb_2=>
  some (-1)
theorem nX(r:Int)(h:jj a0 a1=some r):call G Ω0 E0 166 [(.l 166 (a0.map aB)),(.f 153 [(.e (.a [(I a1.Many),(.l 166 (a1.Grants.map aB))]) 0)])] H0=some (p5 a0 a1 r):=
 aJ ace (ao (.i (a0.length:Int))<|.or (.ex fun (ya_2:Nat)=>ao (.cu (eg a0 a1 (.inl ya_2)))<|.nil) (.ex fun (yb_2:(Nat×Bool))=>ao (.cu (eg a0 a1 (.inr yb_2)))<|.nil)) fun L=>ai (aG aB a0)<|ec h (gl (nW a0 a1) 0) (fun ya_2 h=>L h) (fun yb_2 h=>L h)
abbrev nY(a0:(List bc))(a1:aa)(r:Bool):aQ×HP:=(.ret (.b r),H0)
def dU:Option Bool:=
 (jj a0 a1).bind fun (r1:Int)=>
 some (decide (0≤r1))
theorem mP(r:Bool)(h:dU a0 a1=some r):call G Ω0 E0 152 [(.l 166 (a0.map aB)),(.f 153 [(.e (.a [(I a1.Many),(.l 166 (a1.Grants.map aB))]) 0)])] H0=some (nY a0 a1 r):=
 aJ ab2 (xI fun r1=>.nil) fun L=>aT h (nX a0 a1) fun r1 h=>L h
end
section
variable (a0:aa)
abbrev Ei(a0:aa)(r:Int):aQ×HP:=(.ret (I r),H0)
def mc:Option Int:=
 if a0.Many<1 then
  some 3
 else
  if 6<a0.Many then
   some 3
  else
   if 20<(a0.Grants.length:Int) then
    some 2
   else
    (dU a0.Grants a0).bind fun (r4:Bool)=>
    if r4=true then
     some 5
    else
     some 0
theorem uB(r:Int)(h:mc a0=some r):call G Ω0 E0 128 [(.a [(I a0.Many),(.l 166 (a0.Grants.map aB))])] H0=some (Ei a0 r):=
 aJ abN (bt<|.or (bf<|bf<|bf<|bt<|bt<|.nil) (Ph<|oN (bt<|ao (.i (a0.Grants.length:Int))<|oN (xB fun r4=>oN (.nil))))) fun L=>dO<|bZ h (fun h1 h=>cP (decide_eq_true h1)<|pL (decide_eq_true h1)<|ai tt<|L h) (fun h1 h=>cP (decide_eq_false h1)<|ai (rfl:Z0)<|pL (decide_eq_false h1)<|bZ h (fun h2 h=>ai (decide_eq_true h2)<|L h) (fun h2 h=>uA (decide_eq_false h2)<|ai (aG aB a0.Grants)<|bZ h (fun h3 h=>ai (decide_eq_true h3)<|L h) (fun h3 h=>uA (decide_eq_false h3)<|aT h (mP a0.Grants a0) fun r4 h=>bE h (fun h6 h=>ai h6<|L h) (fun h6 h=>ai h6<|L h))))
end
section
variable (a0:Int)(a1:Program)
abbrev Ej(a0:Int)(a1:Program)(r:Bool):aQ×HP:=(.ret (.b r),H0)
def oY:Option Bool:=
 (jJ a1.aa a0).bind fun (r1:Bool)=>
 some (!r1)
theorem Bz(r:Bool)(h:oY a0 a1=some r):call G Ω0 E0 132 [(I a0),(.e (.a (ar a1)) 0)] H0=some (Ej a0 a1 r):=
 aJ abR (xB fun r1=>.nil) fun L=>aT h (mb a1.aa a0) fun r1 h=>L h
end
section
variable (a0:(List Int))(a1:Program)
def jk(v0_8:Nat):Option (Nat⊕(Nat⊕(Nat×Bool))):=
 if (v0_8:Int)<(a0.length:Int) then
  (a0[v0_8]?).bind fun (y2:Int)=>
  (oY y2 a1).bind fun (r4:Bool)=>
  if r4=true then
   some (.inr (.inl v0_8))
  else
   if IntKind.i64.wrap ((v0_8:Int)+1)=((v0_8+1:Nat):Int) then
    some (.inl (v0_8+1))
   else none
 else
  some (.inr (.inr (v0_8,decide ((v0_8:Int)<(a0.length:Int)))))
abbrev p6(v:Nat):St:=⟨[(0,(.l 3 (a0.map (I)))),(1,(.f 132 [(.e (.a (ar a1)) 0)])),(7,(I (a0.length:Int))),(8,(I (v:Int)))],[],H0⟩
abbrev eQ(x:(Nat⊕(Nat×Bool))):aI×St:=match x with | .inl z1=>(.ret,⟨[(4,(I (z1:Int)))],[],H0⟩) | .inr (z1,z2)=>((.ex 0),⟨[(0,(.l 3 (a0.map (I)))),(1,(.f 132 [(.e (.a (ar a1)) 0)])),(7,(I (a0.length:Int))),(8,(I (z1:Int))),(9,(.b z2))],[],H0⟩)
theorem oZ(v0_8:Nat)(o:Nat⊕(Nat⊕(Nat×Bool)))(h:jk a0 a1 v0_8=some o):bB E0 xA (p6 a0 a1) (eQ a0 a1) v0_8 o:=
 bL (.or (bt<|ao (.n v0_8)<|xI fun y2=>xB fun r4=>oN (ao (.i ((v0_8+1:Nat):Int))<|.nil)) (bf<|.nil)) fun L=>bZ h (fun h1 h=>ai (decide_eq_true h1)<|ai (rI v0_8)<|bO h fun y2 h3 h=>ai (aU (I) h3)<|aT h (Bz y2 a1) fun r4 h=>bE h (fun h6 h=>ai h6<|L h) (fun h6 h=>ai h6<|aR h fun w7 h=>ai w7<|L h)) (fun h1 h=>ai (decide_eq_false h1)<|L h)
abbrev rl(a0:(List Int))(a1:Program)(r:Int):aQ×HP:=(.ret (I r),H0)
def jZ:Option Int:=
 (lp (fun v=>jk a0 a1 v) 0).bind fun (x1:(Nat⊕(Nat×Bool)))=>match x1 with
 | .inl ya_2=>
  some (ya_2:Int)
 | .inr yb_2=>
  some (-1)
theorem o0(r:Int)(h:jZ a0 a1=some r):call G Ω0 E0 143 [(.l 3 (a0.map (I))),(.f 132 [(.e (.a (ar a1)) 0)])] H0=some (rl a0 a1 r):=
 aJ G1 (ao (.i (a0.length:Int))<|.or (.ex fun (ya_2:Nat)=>ao (.cu (eQ a0 a1 (.inl ya_2)))<|.nil) (.ex fun (yb_2:(Nat×Bool))=>ao (.cu (eQ a0 a1 (.inr yb_2)))<|.nil)) fun L=>ai (aG (I) a0)<|ec h (gl (oZ a0 a1) 0) (fun ya_2 h=>L h) (fun yb_2 h=>L h)
abbrev pa(a0:(List Int))(a1:Program)(r:Bool):aQ×HP:=(.ret (.b r),H0)
def ez:Option Bool:=
 (jZ a0 a1).bind fun (r1:Int)=>
 some (decide (0≤r1))
theorem nx(r:Bool)(h:ez a0 a1=some r):call G Ω0 E0 105 [(.l 3 (a0.map (I))),(.f 132 [(.e (.a (ar a1)) 0)])] H0=some (pa a0 a1 r):=
 aJ G0 (xI fun r1=>.nil) fun L=>aT h (o0 a0 a1) fun r1 h=>L h
end
section
variable (a0:(List (List Label)))
def cI(v0_3:Int)(v0_11:Nat):Option ((Int×Nat)⊕(Int×Nat×Bool)):=
 if (v0_11:Int)<(a0.length:Int) then
  (a0[v0_11]?).bind fun (y2:(List Label))=>
  if IntKind.i64.wrap (v0_3+(y2.length:Int))=v0_3+(y2.length:Int) then
   if (v0_3+(y2.length:Int))<0 then
    none
   else
    if IntKind.i64.wrap ((v0_11:Int)+1)=((v0_11+1:Nat):Int) then
     some (.inl (v0_3+(y2.length:Int),v0_11+1))
    else none
  else none
 else
  some (.inr (v0_3,v0_11,decide ((v0_11:Int)<(a0.length:Int))))
abbrev tK(v:(Int×Nat)):St:=⟨[(0,(.l 26 (a0.map (cz 81 ah)))),(3,(I v.1)),(9,(.l 26 (a0.map (cz 81 ah)))),(10,(I (a0.length:Int))),(11,(I (v.2:Int)))],[],H0⟩
abbrev mG(x:(Int×Nat×Bool)):aI×St:=((.ex 0),⟨[(0,(.l 26 (a0.map (cz 81 ah)))),(3,(I x.1)),(9,(.l 26 (a0.map (cz 81 ah)))),(10,(I (a0.length:Int))),(11,(I (x.2.1:Int))),(12,(.b x.2.2))],[],H0⟩)
theorem sC(v0_3:Int)(v0_11:Nat)(o:(Int×Nat)⊕(Int×Nat×Bool))(h:cI a0 v0_3 v0_11=some o):bB E0 Mn (tK a0) (mG a0) (v0_3,v0_11) o:=
 bL (.or (bt<|ao (.n v0_11)<|.ex fun (y2:(List Label))=>ao (.v (.l 81 (y2.map ah)))<|ao (.i (y2.length:Int))<|ao (.i (v0_3+(y2.length:Int)))<|bf<|ao (.i ((v0_11+1:Nat):Int))<|.nil) (bf<|.nil)) fun L=>bZ h (fun h1 h=>ai (decide_eq_true h1)<|ai (rI v0_11)<|bO h fun y2 h3 h=>ai (aU (cz 81 ah) h3)<|ai (aG ah y2)<|aR h fun w4 h=>ai w4<|Pd h (fun _ h=>Zy h) (fun h5 h=>ai (decide_eq_false h5)<|aR h fun w6 h=>ai w6<|L h)) (fun h1 h=>ai (decide_eq_false h1)<|L h)
def cJ(v1_6:(List Label))(v1_27:Nat):Option (((List Label)×Nat)⊕((List Label)×Nat×Bool)):=
 if (v1_27:Int)<(a0.length:Int) then
  (a0[v1_27]?).bind fun (y5:(List Label))=>
  if v1_6.length+y5.length≤1000000000 then
   if IntKind.i64.wrap ((v1_27:Int)+1)=((v1_27+1:Nat):Int) then
    some (.inl (v1_6++y5,v1_27+1))
   else none
  else none
 else
  some (.inr (v1_6,v1_27,decide ((v1_27:Int)<(a0.length:Int))))
abbrev tL(v:((List Label)×Nat)):St:=⟨[(6,(.o 81 (v.1.map ah))),(25,(.l 26 (a0.map (cz 81 ah)))),(26,(I (a0.length:Int))),(27,(I (v.2:Int)))],[],H0⟩
abbrev mH(x:((List Label)×Nat×Bool)):aI×St:=((.ex 2),⟨[(6,(.o 81 (x.1.map ah))),(25,(.l 26 (a0.map (cz 81 ah)))),(26,(I (a0.length:Int))),(27,(I (x.2.1:Int))),(28,(.b x.2.2))],[],H0⟩)
theorem sD(v1_6:(List Label))(v1_27:Nat)(o:((List Label)×Nat)⊕((List Label)×Nat×Bool))(h:cJ a0 v1_6 v1_27=some o):bB E0 Mo (tL a0) (mH a0) (v1_6,v1_27) o:=
 bL (.or (bt<|ao (.n v1_27)<|.ex fun (y5:(List Label))=>ao (.v (.l 81 (y5.map ah)))<|ao (.l ((v1_6++y5).map ah))<|ao (.i ((v1_27+1:Nat):Int))<|.nil) (bf<|.nil)) fun L=>bZ h (fun h4 h=>ai (decide_eq_true h4)<|ai (rI v1_27)<|bO h fun y5 h6 h=>ai (aU (cz 81 ah) h6)<|ai ff<|aR h fun h7 h=>ai ((fQ ah (n:=2) (fun _=>rfl) y5):(y5.map ah).all (fun e=>e.nc==2)=true)<|ai ((kE h7 (by decide)):((v1_6.map ah).length+(y5.map ah).length)*48≤140737488355328)<|ai ((kG h7):(v1_6.map ah).length+(y5.map ah).length≤maxLen)<|ai (List.map_append.symm:v1_6.map ah++y5.map ah=(v1_6++y5).map ah)<|aR h fun w8 h=>ai w8<|L h) (fun h4 h=>ai (decide_eq_false h4)<|L h)
abbrev uK(a0:(List (List Label)))(r:(List Label)):aQ×HP:=(.ret (.l 81 (r.map ah)),H0)
def fx:Option (List Label):=
 (lp (fun v=>cI a0 v.1 v.2) (0,0)).bind fun (x1:(Int×Nat×Bool))=>
 if 0≤x1.1∧x1.1≤1000000 then
  (lp (fun v=>cJ a0 v.1 v.2) (([]:List Label),0)).bind fun (x4:((List Label)×Nat×Bool))=>
  some x4.1
 else none
theorem sE(r:(List Label))(h:fx a0=some r):call G Ω0 E0 133 [(.l 26 (a0.map (cz 81 ah)))] H0=some (uK a0 r):=
 aJ abS (ao (.i (a0.length:Int))<|.ex fun (x1:(Int×Nat×Bool))=>ao (.cu (mG a0 x1))<|ao (.i (a0.length:Int))<|.ex fun (x4:((List Label)×Nat×Bool))=>ao (.cu (mH a0 x4))<|.nil) fun L=>ai (aG (cz 81 ah) a0)<|aT h (gl (fun v=>sC a0 v.1 v.2) (0,0)) fun x1 h=>aR h fun h3 h=>ai (Pe h3:Ω0 155 [.n,(I x1.1)]=some (.o 81 []))<|ai (aG (cz 81 ah) a0)<|aT h (gl (fun v=>sD a0 v.1 v.2) (([]:List Label),0)) fun x4 h=>L h
end
section
variable (a0:Int)(a1:aa)
abbrev BZ(a0:Int)(a1:aa)(r:Bool):aQ×HP:=(.ret (.b r),H0)
def mQ:Option Bool:=
 (jJ a1 a0).bind fun (r1:Bool)=>
 some (!r1)
theorem zF(r:Bool)(h:mQ a0 a1=some r):call G Ω0 E0 167 [(I a0),(.e (.a [(I a1.Many),(.l 166 (a1.Grants.map aB))]) 0)] H0=some (BZ a0 a1 r):=
 aJ acf (xB fun r1=>.nil) fun L=>aT h (mb a1 a0) fun r1 h=>L h
end
section
variable (a0:(List Int))(a1:aa)
def iG(v0_8:Nat):Option (Nat⊕(Nat⊕(Nat×Bool))):=
 if (v0_8:Int)<(a0.length:Int) then
  (a0[v0_8]?).bind fun (y2:Int)=>
  (mQ y2 a1).bind fun (r4:Bool)=>
  if r4=true then
   some (.inr (.inl v0_8))
  else
   if IntKind.i64.wrap ((v0_8:Int)+1)=((v0_8+1:Nat):Int) then
    some (.inl (v0_8+1))
   else none
 else
  some (.inr (.inr (v0_8,decide ((v0_8:Int)<(a0.length:Int)))))
abbrev oq(v:Nat):St:=⟨[(0,(.l 3 (a0.map (I)))),(1,(.f 167 [(.e (.a [(I a1.Many),(.l 166 (a1.Grants.map aB))]) 0)])),(7,(I (a0.length:Int))),(8,(I (v:Int)))],[],H0⟩
abbrev eh(x:(Nat⊕(Nat×Bool))):aI×St:=match x with | .inl z1=>(.ret,⟨[(4,(I (z1:Int)))],[],H0⟩) | .inr (z1,z2)=>((.ex 0),⟨[(0,(.l 3 (a0.map (I)))),(1,(.f 167 [(.e (.a [(I a1.Many),(.l 166 (a1.Grants.map aB))]) 0)])),(7,(I (a0.length:Int))),(8,(I (z1:Int))),(9,(.b z2))],[],H0⟩)
theorem nZ(v0_8:Nat)(o:Nat⊕(Nat⊕(Nat×Bool)))(h:iG a0 a1 v0_8=some o):bB E0 xA (oq a0 a1) (eh a0 a1) v0_8 o:=
 bL (.or (bt<|ao (.n v0_8)<|xI fun y2=>xB fun r4=>oN (ao (.i ((v0_8+1:Nat):Int))<|.nil)) (bf<|.nil)) fun L=>bZ h (fun h1 h=>ai (decide_eq_true h1)<|ai (rI v0_8)<|bO h fun y2 h3 h=>ai (aU (I) h3)<|aT h (zF y2 a1) fun r4 h=>bE h (fun h6 h=>ai h6<|L h) (fun h6 h=>ai h6<|aR h fun w7 h=>ai w7<|L h)) (fun h1 h=>ai (decide_eq_false h1)<|L h)
abbrev p7(a0:(List Int))(a1:aa)(r:Int):aQ×HP:=(.ret (I r),H0)
def jl:Option Int:=
 (lp (fun v=>iG a0 a1 v) 0).bind fun (x1:(Nat⊕(Nat×Bool)))=>match x1 with
 | .inl ya_2=>
  some (ya_2:Int)
 | .inr yb_2=>
  some (-1)
theorem n4(r:Int)(h:jl a0 a1=some r):call G Ω0 E0 143 [(.l 3 (a0.map (I))),(.f 167 [(.e (.a [(I a1.Many),(.l 166 (a1.Grants.map aB))]) 0)])] H0=some (p7 a0 a1 r):=
 aJ G1 (ao (.i (a0.length:Int))<|.or (.ex fun (ya_2:Nat)=>ao (.cu (eh a0 a1 (.inl ya_2)))<|.nil) (.ex fun (yb_2:(Nat×Bool))=>ao (.cu (eh a0 a1 (.inr yb_2)))<|.nil)) fun L=>ai (aG (I) a0)<|ec h (gl (nZ a0 a1) 0) (fun ya_2 h=>L h) (fun yb_2 h=>L h)
abbrev n5(a0:(List Int))(a1:aa)(r:Bool):aQ×HP:=(.ret (.b r),H0)
def dV:Option Bool:=
 (jl a0 a1).bind fun (r1:Int)=>
 some (decide (0≤r1))
theorem mR(r:Bool)(h:dV a0 a1=some r):call G Ω0 E0 105 [(.l 3 (a0.map (I))),(.f 167 [(.e (.a [(I a1.Many),(.l 166 (a1.Grants.map aB))]) 0)])] H0=some (n5 a0 a1 r):=
 aJ G0 (xI fun r1=>.nil) fun L=>aT h (n4 a0 a1) fun r1 h=>L h
end
section
variable (a1:aD)(a0:aa)
def ei(v0_5:Nat):Option (Nat⊕(Unit⊕(Nat×Bool))):=
 if (v0_5:Int)<(a1.Names.length:Int) then
  (a1.Names[v0_5]?).bind fun (y9:Int)=>
  if IntKind.i64.wrap ((v0_5:Int) - 1)=(v0_5:Int) - 1 then
   (dG ((v0_5:Int) - 1)).bind fun (j12:Nat)=>
   (a1.Names[j12]?).bind fun (y14:Int)=>
   if y9≤y14 then
    some (.inr (.inl ()))
   else
    if IntKind.i64.wrap ((v0_5:Int)+1)=((v0_5+1:Nat):Int) then
     some (.inl (v0_5+1))
    else none
  else none
 else
  some (.inr (.inr (v0_5,decide ((v0_5:Int)<(a1.Names.length:Int)))))
abbrev B0(v:Nat):St:=⟨[(3,(.p ⟨0,3⟩ 0)),(5,(I (v:Int)))],[(3,[(I a1.Owner),(.l 3 (a1.Names.map (I)))])],H0⟩
abbrev rm(x:(Unit⊕(Nat×Bool))):aI×St:=match x with | .inl ()=>(.ret,⟨[(4,(I 4))],[],H0⟩) | .inr (z1,z2)=>((.ex 1),⟨[(3,(.p ⟨0,3⟩ 0)),(5,(I (z1:Int))),(26,(.b z2))],[(3,[(I a1.Owner),(.l 3 (a1.Names.map (I)))])],H0⟩)
theorem BA(v0_5:Nat)(o:Nat⊕(Unit⊕(Nat×Bool)))(h:ei a1 v0_5=some o):bB E0 Mv (B0 a1) (rm a1) v0_5 o:=
 bL (bt<|ao (.i (a1.Names.length:Int))<|.or (gT<|ao (.n v0_5)<|xI fun y9=>bt<|ao (.i ((v0_5:Int) - 1))<|xN fun j12=>xI fun y14=>oN (ao (.i ((v0_5+1:Nat):Int))<|.nil)) (bf<|.nil)) fun L=>ai (rfl:Z0)<|ai (aG (I) a1.Names)<|bZ h (fun h8 h=>ai (decide_eq_true h8)<|bJ<|ai (rfl:Z0)<|bJ<|ai (rI v0_5)<|bO h fun y9 h10 h=>ai (aU (I) h10)<|bJ<|dO<|bJ<|aR h fun w11 h=>ai w11<|ai tt<|rR h fun j12 h13 h=>ai h13<|bO h fun y14 h15 h=>ai (aU (I) h15)<|bJ<|bZ h (fun h16 h=>ai (decide_eq_true h16)<|L h) (fun h16 h=>ai (decide_eq_false h16)<|aR h fun w17 h=>ai w17<|L h)) (fun h8 h=>ai (decide_eq_false h8)<|L h)
abbrev Ek(a0:aa)(a1:aD)(r:Int):aQ×HP:=(.ret (I r),H0)
def pb(a1:aD):Option Int:=
 (jJ a0 a1.Owner).bind fun (r1:Bool)=>
 if r1=true then
  if 6<(a1.Names.length:Int) then
   some 2
  else
   (dV a1.Names a0).bind fun (r5:Bool)=>
   if r5=true then
    some 5
   else
    (lp (fun v=>ei a1 v) 1).bind fun (x8:(Unit⊕(Nat×Bool)))=>match x8 with
    | .inl ya_9=>
     some 4
    | .inr yb_9=>
     some 0
 else
  some 5
theorem BB(a1:aD)(r:Int)(h:pb a0 a1=some r):call G Ω0 E0 154 [(.a [(I a0.Many),(.l 166 (a0.Grants.map aB))]),(.a [(I a1.Owner),(.l 3 (a1.Names.map (I)))])] H0=some (Ek a0 a1 r):=
 aJ ab4 (gT<|xB fun r1=>.or (bf<|bt<|ao (.i (a1.Names.length:Int))<|oN (bt<|xB fun r5=>oN (.or (.ex fun (ya_9:Unit)=>ao (.cu (rm a1 (.inl ya_9)))<|.nil) (.ex fun (yb_9:(Nat×Bool))=>ao (.cu (rm a1 (.inr yb_9)))<|.nil)))) (bt<|.nil)) fun L=>bJ<|ai (rfl:Z0)<|ai (rfl:Z0)<|aT h (mb a0 a1.Owner) fun r1 h=>bE h (fun h3 h=>uA (congrArg not h3)<|ai (aG (I) a1.Names)<|bZ h (fun h4 h=>ai (decide_eq_true h4)<|L h) (fun h4 h=>ai (decide_eq_false h4)<|ai (rfl:Z0)<|ai (rfl:Z0)<|aT h (mR a1.Names a0) fun r5 h=>bE h (fun h7 h=>ai h7<|L h) (fun h7 h=>ai h7<|ec h (gl (BA a1) 1) (fun ya_9 h=>L h) (fun yb_9 h=>L h)))) (fun h3 h=>ai (congrArg not h3)<|L h)
end
section
variable (a0:aa)(a1:Label)
def fq(a1:Label)(v0_16:Nat)(y2:(List aD))(v1_25:Nat):Option (Nat⊕(Int⊕(Nat×Bool))):=
 if (v1_25:Int)<(y2.length:Int) then
  (y2[v1_25]?).bind fun (y6:aD)=>
  (pb a0 y6).bind fun (r8:Int)=>
  if (r8 !=0)=true then
   some (.inr (.inl r8))
  else
   if IntKind.i64.wrap ((v1_25:Int)+1)=((v1_25+1:Nat):Int) then
    some (.inl (v1_25+1))
   else none
 else
  some (.inr (.inr (v1_25,decide ((v1_25:Int)<(y2.length:Int)))))
abbrev El(v0_16:Nat)(y2:(List aD))(v:Nat):St:=⟨[(2,(.p ⟨0,2⟩ 0)),(14,(.l 79 (([a1.Read,a1.Write]).map (cz 138 au)))),(15,(I ((([a1.Read,a1.Write]).length:Nat):Int))),(16,(I (v0_16:Int))),(23,(.l 138 (y2.map au))),(24,(I (y2.length:Int))),(25,(I (v:Int)))],[(2,[(I a0.Many),(.l 166 (a0.Grants.map aB))])],H0⟩
abbrev sF(v0_16:Nat)(y2:(List aD))(x:(Int⊕(Nat×Bool))):aI×St:=match x with | .inl z1=>(.ret,⟨[(4,(I z1))],[],H0⟩) | .inr (z1,z2)=>((.ex 2),⟨[(2,(.p ⟨0,2⟩ 0)),(14,(.l 79 (([a1.Read,a1.Write]).map (cz 138 au)))),(15,(I ((([a1.Read,a1.Write]).length:Nat):Int))),(16,(I (v0_16:Int))),(23,(.l 138 (y2.map au))),(24,(I (y2.length:Int))),(25,(I (z1:Int))),(26,(.b z2))],[(2,[(I a0.Many),(.l 166 (a0.Grants.map aB))])],H0⟩)
theorem Df(v0_16:Nat)(y2:(List aD))(v1_25:Nat)(o:Nat⊕(Int⊕(Nat×Bool)))(h:fq a0 a1 v0_16 y2 v1_25=some o):bB E0 Mk (El a0 a1 v0_16 y2) (sF a0 a1 v0_16 y2) v1_25 o:=
 bL (.or (bt<|ao (.n v1_25)<|.ex fun (y6:aD)=>ao (.v (.a [(I y6.Owner),(.l 3 (y6.Names.map (I)))]))<|zu<|xI fun r8=>oN (ao (.i ((v1_25+1:Nat):Int))<|.nil)) (bf<|.nil)) fun L=>bZ h (fun h5 h=>ai (decide_eq_true h5)<|ai (rI v1_25)<|bO h fun y6 h7 h=>ai (aU au h7)<|ai tt<|jd<|dO<|ai (rfl:Z0)<|ai (rfl:Z0)<|aT h (BB a0 y6) fun r8 h=>bE h (fun h10 h=>ai h10<|L h) (fun h10 h=>ai h10<|aR h fun w11 h=>ai w11<|L h)) (fun h5 h=>ai (decide_eq_false h5)<|L h)
def bH(v0_16:Nat):Option (Nat⊕(Unit⊕(Int⊕(Nat×Bool)))):=
 if (v0_16:Int)<((([a1.Read,a1.Write]).length:Nat):Int) then
  (([a1.Read,a1.Write])[v0_16]?).bind fun (y2:(List aD))=>
  if 4<(y2.length:Int) then
   some (.inr (.inl ()))
  else
   (lp (fun v=>fq a0 a1 v0_16 y2 v) 0).bind fun (x5:(Int⊕(Nat×Bool)))=>match x5 with
   | .inl ya_6=>
    some (.inr (.inr (.inl ya_6)))
   | .inr yb_6=>
    if IntKind.i64.wrap ((v0_16:Int)+1)=((v0_16+1:Nat):Int) then
     some (.inl (v0_16+1))
    else none
 else
  some (.inr (.inr (.inr (v0_16,decide ((v0_16:Int)<((([a1.Read,a1.Write]).length:Nat):Int))))))
abbrev Em(v:Nat):St:=⟨[(2,(.p ⟨0,2⟩ 0)),(14,(.l 79 (([a1.Read,a1.Write]).map (cz 138 au)))),(15,(I ((([a1.Read,a1.Write]).length:Nat):Int))),(16,(I (v:Int)))],[(2,[(I a0.Many),(.l 166 (a0.Grants.map aB))])],H0⟩
abbrev pc(x:(Unit⊕(Int⊕(Nat×Bool)))):aI×St:=match x with | .inl ()=>(.ret,⟨[(4,(I 2))],[],H0⟩) | .inr (.inl z1)=>(.ret,⟨[(4,(I z1))],[],H0⟩) | .inr (.inr (z1,z2))=>((.ex 0),⟨[(2,(.p ⟨0,2⟩ 0)),(14,(.l 79 (([a1.Read,a1.Write]).map (cz 138 au)))),(15,(I ((([a1.Read,a1.Write]).length:Nat):Int))),(16,(I (z1:Int))),(17,(.b z2))],[(2,[(I a0.Many),(.l 166 (a0.Grants.map aB))])],H0⟩)
theorem Dg(v0_16:Nat)(o:Nat⊕(Unit⊕(Int⊕(Nat×Bool))))(h:bH a0 a1 v0_16=some o):bB E0 Ml (Em a0 a1) (pc a0 a1) v0_16 o:=
 bL (.or (bt<|ao (.n v0_16)<|.ex fun (y2:(List aD))=>ao (.v (.l 138 (y2.map au)))<|ao (.i (y2.length:Int))<|oN (ao (.i (y2.length:Int))<|.or (.ex fun (ya_6:Int)=>ao (.cu (sF a0 a1 v0_16 y2 (.inl ya_6)))<|.nil) (.ex fun (yb_6:(Nat×Bool))=>ao (.cu (sF a0 a1 v0_16 y2 (.inr yb_6)))<|ao (.i ((v0_16+1:Nat):Int))<|.nil))) (bf<|.nil)) fun L=>bZ h (fun h1 h=>ai (decide_eq_true h1)<|ai (rI v0_16)<|bO h fun y2 h3 h=>ai (aU (cz 138 au) h3)<|ai (aG au y2)<|bZ h (fun h4 h=>ai (decide_eq_true h4)<|L h) (fun h4 h=>ai (decide_eq_false h4)<|ai (aG au y2)<|ec h (gl (Df a0 a1 v0_16 y2) 0) (fun ya_6 h=>L h) (fun yb_6 h=>aR h fun w8 h=>ai w8<|L h))) (fun h1 h=>ai (decide_eq_false h1)<|L h)
abbrev Hp(a0:aa)(a1:Label)(r:Int):aQ×HP:=(.ret (I r),H0)
def ot:Option Int:=
 (lp (fun v=>bH a0 a1 v) 0).bind fun (x1:(Unit⊕(Int⊕(Nat×Bool))))=>match x1 with
 | .inl ya_2=>
  some 2
 | .inr (.inl yb_2)=>
  some yb_2
 | .inr (.inr yc_2)=>
  some 0
theorem wK(r:Int)(h:ot a0 a1=some r):call G Ω0 E0 129 [(.a [(I a0.Many),(.l 166 (a0.Grants.map aB))]),(.a [(.l 138 (a1.Read.map au)),(.l 138 (a1.Write.map au))])] H0=some (Hp a0 a1 r):=
 aJ abO (gT<|ao (.l (([a1.Read,a1.Write]).map (cz 138 au)))<|ao (.i ((([a1.Read,a1.Write]).length:Nat):Int))<|.or (.ex fun (ya_2:Unit)=>ao (.cu (pc a0 a1 (.inl ya_2)))<|.nil) (.or (.ex fun (yb_2:Int)=>ao (.cu (pc a0 a1 (.inr (.inl yb_2))))<|.nil) (.ex fun (yc_2:(Nat×Bool))=>ao (.cu (pc a0 a1 (.inr (.inr yc_2))))<|.nil))) fun L=>bJ<|ai (rfl:Z0)<|ai (rfl:Z0)<|ai (rfl:[(.l 138 (a1.Read.map au)),(.l 138 (a1.Write.map au))]=([a1.Read,a1.Write]).map (cz 138 au))<|ai (aG (cz 138 au) ([a1.Read,a1.Write]))<|QI h (gl (Dg a0 a1) 0) (fun ya_2 h=>L h) (fun yb_2 h=>L h) (fun yc_2 h=>L h)
end
section
variable (a0:Var)
abbrev En(a0:Var)(r:Bool):aQ×HP:=(.ret (.b r),H0)
def pd:Option Bool:=
 if a0.Known=true then
  some false
 else
  if IntKind.i64.wrap ((a0.Label.Read.length:Int)+(a0.Label.Write.length:Int))=(a0.Label.Read.length:Int)+(a0.Label.Write.length:Int) then
   some (decide (0<((a0.Label.Read.length:Int)+(a0.Label.Write.length:Int))))
  else none
theorem BC(r:Bool)(h:pd a0=some r):call G Ω0 E0 135 [(.a (Ho a0))] H0=some (En a0 r):=
 aJ abU (bt<|.or (U3<|.nil) (tJ<|ao (.i (a0.Label.Read.length:Int))<|tJ<|ao (.i (a0.Label.Write.length:Int))<|bt<|ao (.i ((a0.Label.Read.length:Int)+(a0.Label.Write.length:Int)))<|gT<|.nil)) fun L=>dO<|bE h (fun h1 h=>bG (congrArg not h1)<|bG (congrArg not h1)<|bG (congrArg not h1)<|bG (congrArg not h1)<|bG (congrArg not h1)<|ai (congrArg not h1)<|L h) (fun h1 h=>bG (congrArg not h1)<|ai (g1 (congrArg not h1))<|ai (rfl:Z0)<|ai (g1 (congrArg not h1))<|ai (aG au a0.Label.Read)<|bG (congrArg not h1)<|ai (g1 (congrArg not h1))<|ai (rfl:Z0)<|ai (g1 (congrArg not h1))<|ai (aG au a0.Label.Write)<|ai (g1 (congrArg not h1))<|aR h fun w2 h=>ai w2<|sj (congrArg not h1)<|L h)
end
section
variable (a0:(List Var))
def jm(v0_8:Nat):Option (Nat⊕(Nat⊕(Nat×Bool))):=
 if (v0_8:Int)<(a0.length:Int) then
  (a0[v0_8]?).bind fun (y2:Var)=>
  (pd y2).bind fun (r4:Bool)=>
  if r4=true then
   some (.inr (.inl v0_8))
  else
   if IntKind.i64.wrap ((v0_8:Int)+1)=((v0_8+1:Nat):Int) then
    some (.inl (v0_8+1))
   else none
 else
  some (.inr (.inr (v0_8,decide ((v0_8:Int)<(a0.length:Int)))))
abbrev p8(v:Nat):St:=⟨[(0,(.l 83 (a0.map aW))),(1,(.f 135 [])),(7,(I (a0.length:Int))),(8,(I (v:Int)))],[],H0⟩
abbrev eR(x:(Nat⊕(Nat×Bool))):aI×St:=match x with | .inl z1=>(.ret,⟨[(4,(I (z1:Int)))],[],H0⟩) | .inr (z1,z2)=>((.ex 0),⟨[(0,(.l 83 (a0.map aW))),(1,(.f 135 [])),(7,(I (a0.length:Int))),(8,(I (z1:Int))),(9,(.b z2))],[],H0⟩)
theorem pf(v0_8:Nat)(o:Nat⊕(Nat⊕(Nat×Bool)))(h:jm a0 v0_8=some o):bB E0 Mw (p8 a0) (eR a0) v0_8 o:=
 bL (.or (bt<|ao (.n v0_8)<|.ex fun (y2:Var)=>ao (.v (.a (Ho y2)))<|xB fun r4=>oN (ao (.i ((v0_8+1:Nat):Int))<|.nil)) (bf<|.nil)) fun L=>bZ h (fun h1 h=>ai (decide_eq_true h1)<|ai (rI v0_8)<|bO h fun y2 h3 h=>ai (aU aW h3)<|aT h (BC y2) fun r4 h=>bE h (fun h6 h=>ai h6<|L h) (fun h6 h=>ai h6<|aR h fun w7 h=>ai w7<|L h)) (fun h1 h=>ai (decide_eq_false h1)<|L h)
abbrev rn(a0:(List Var))(r:Int):aQ×HP:=(.ret (I r),H0)
def j0:Option Int:=
 (lp (fun v=>jm a0 v) 0).bind fun (x1:(Nat⊕(Nat×Bool)))=>match x1 with
 | .inl ya_2=>
  some (ya_2:Int)
 | .inr yb_2=>
  some (-1)
theorem ph(r:Int)(h:j0 a0=some r):call G Ω0 E0 156 [(.l 83 (a0.map aW)),(.f 135 [])] H0=some (rn a0 r):=
 aJ ab5 (ao (.i (a0.length:Int))<|.or (.ex fun (ya_2:Nat)=>ao (.cu (eR a0 (.inl ya_2)))<|.nil) (.ex fun (yb_2:(Nat×Bool))=>ao (.cu (eR a0 (.inr yb_2)))<|.nil)) fun L=>ai (aG aW a0)<|ec h (gl (pf a0) 0) (fun ya_2 h=>L h) (fun yb_2 h=>L h)
abbrev pj(a0:(List Var))(r:Bool):aQ×HP:=(.ret (.b r),H0)
def eA:Option Bool:=
 (j0 a0).bind fun (r1:Int)=>
 some (decide (0≤r1))
theorem ny(r:Bool)(h:eA a0=some r):call G Ω0 E0 134 [(.l 83 (a0.map aW)),(.f 135 [])] H0=some (pj a0 r):=
 aJ abT (xI fun r1=>.nil) fun L=>aT h (ph a0) fun r1 h=>L h
def wL:List dL:=(gM 38 37)::⟨some 39,.fa 2 1,some ⟨38,false⟩,false⟩::⟨some 40,.ld none 39,some ⟨38,false⟩,false⟩::⟨some 41,.ln false 40,some ⟨38,false⟩,false⟩::⟨some 42,.fa 0 1,some ⟨38,false⟩,false⟩::⟨some 43,.fa 0 42,some ⟨38,false⟩,false⟩::⟨some 44,.ld none 43,some ⟨38,false⟩,false⟩::⟨some 45,.bo .gtr false 41 44,some ⟨38,false⟩,false⟩::(gp 46 (.pk 38 (.c (.b true)) 45))::[]
end
section
variable (a0:Program)
def iT(u2_1:Bool):Option Bool:=
 if u2_1=true then
  some true
 else
  some (decide (a0.aa.Many<(a0.Speak.length:Int)))
abbrev lf(u2_1:Bool)(x:Bool):St:=⟨[(1,(.p ⟨0,1⟩ 0)),(46,(.b x))],[(1,(ar a0))],H0⟩
theorem mS(u2_1:Bool)(w:List AV)(x:Bool)(h:iT a0 u2_1=some x):nv G Ω0 E0 [1,46] [1] wL ⟨[(37,(.b u2_1)),(36,(W w 0)),(35,(W w 1)),(34,(W w 2)),(33,(W w 3)),(32,(W w 4)),(31,(W w 5)),(30,(W w 6)),(29,(W w 7)),(28,(W w 8)),(27,(W w 9)),(26,(W w 10)),(25,(W w 11)),(24,(W w 12)),(23,(W w 13)),(22,(W w 14)),(21,(W w 15)),(20,(.b (decide (16<(a0.Vars.length:Int))))),(19,(.b (decide (16<(a0.Vars.length:Int))))),(18,(I (a0.Vars.length:Int))),(17,(.l 83 (a0.Vars.map aW))),(16,(.p ⟨0,1⟩ 5)),(1,(.p ⟨0,1⟩ 0))],[(1,(ar a0))],H0⟩=some (lf a0 u2_1 x):=
 m7 (.or (bf<|bf<|bf<|bf<|bf<|bf<|bf<|bt<|.nil) (zu<|ao (.i (a0.Speak.length:Int))<|bt<|bt<|bt<|bt<|bt<|bf<|.nil)) fun L=>bE h (fun h7 h=>cP h7<|cP h7<|cP h7<|pL h7<|L h) (fun h7 h=>MK h7<|ai (aG (I) a0.Speak)<|cP h7<|ai (g0 h7)<|ai (rfl:Z0)<|pL h7<|L h)
def Dh:List dL:=(gF 16 5 1)::(gQ 17 16)::(gp 18 (.ln false 17))::(gB 19 .gtr 18 (kI 16))::(gM 20 19)::⟨some 21,.fa 3 1,some ⟨20,false⟩,false⟩::⟨some 22,.ld none 21,some ⟨20,false⟩,false⟩::⟨some 23,.ln false 22,some ⟨20,false⟩,false⟩::⟨some 24,.bo .gtr false 23 (kI 5),some ⟨20,false⟩,false⟩::(gp 25 (.pk 20 (.c (.b true)) 24))::(gM 26 25)::⟨some 27,.fa 4 1,some ⟨26,false⟩,false⟩::⟨some 28,.ld none 27,some ⟨26,false⟩,false⟩::⟨some 29,.ln false 28,some ⟨26,false⟩,false⟩::⟨some 30,.bo .gtr false 29 (kI 5),some ⟨26,false⟩,false⟩::(gp 31 (.pk 26 (.c (.b true)) 30))::(gM 32 31)::⟨some 33,.fa 6 1,some ⟨32,false⟩,false⟩::⟨some 34,.ld none 33,some ⟨32,false⟩,false⟩::⟨some 35,.ln false 34,some ⟨32,false⟩,false⟩::⟨some 36,.bo .gtr false 35 (kI 5),some ⟨32,false⟩,false⟩::(gp 37 (.pk 32 (.c (.b true)) 36))::wL
def nM:Option Bool:=
 if 16<(a0.Vars.length:Int) then
  (iT a0 true).bind fun (x5:Bool)=>
  some x5
 else
  if 5<(a0.Ins.length:Int) then
   (iT a0 true).bind fun (x6:Bool)=>
   some x6
  else
   if 5<(a0.Outs.length:Int) then
    (iT a0 true).bind fun (x7:Bool)=>
    some x7
   else
    (iT a0 (decide (5<(a0.Funcs.length:Int)))).bind fun (x7:Bool)=>
    some x7
abbrev wM(x:Bool):St:=⟨[(1,(.p ⟨0,1⟩ 0)),(46,(.b x))],[(1,(ar a0))],H0⟩
theorem B3(x:Bool)(h:nM a0=some x):nv G Ω0 E0 [1,46] [1] Dh ⟨[(1,(.p ⟨0,1⟩ 0))],[(1,(ar a0))],H0⟩=some (wM a0 x):=
 m7 (bt<|ao (.i (a0.Vars.length:Int))<|.or (bf<|bf<|bf<|bf<|bt<|bf<|bf<|bf<|bf<|bt<|bf<|bf<|bf<|bf<|bt<|.jb (some 38) 8<|.ex fun (x5:Bool)=>ao (.jn (lf a0 true x5))<|.nil) (zu<|ao (.i (a0.Ins.length:Int))<|vu<|.or (bf<|bf<|bf<|bf<|bt<|bf<|bf<|bf<|bf<|bt<|.jb (some 38) 8<|.ex fun (x6:Bool)=>ao (.jn (lf a0 true x6))<|.nil) (zu<|ao (.i (a0.Outs.length:Int))<|vu<|.or (Fs<|.jb (some 38) 8<|.ex fun (x7:Bool)=>ao (.jn (lf a0 true x7))<|.nil) (zu<|ao (.i (a0.Funcs.length:Int))<|vu<|.jb (some 38) 8<|.ex fun (x7:Bool)=>ao (.jn (lf a0 (decide (5<(a0.Funcs.length:Int))) x7))<|.nil)))) fun L=>ai (rfl:Z0)<|ai (aG aW a0.Vars)<|bZ h (fun h4 h=>cP (decide_eq_true h4)<|cP (decide_eq_true h4)<|ai (decide_eq_true h4)<|ai ht<|ai ht<|ai ht<|ai ht<|ai tt<|ai ht<|ai ht<|ai ht<|ai ht<|ai tt<|aT h (mS a0 true [.sk,.sk,.sk,.sk,(.b true),(.b true),.sk,.sk,.sk,.sk,(.b true),(.b true),.sk,.sk,.sk,.sk]) fun x5 h=>L h) (fun h4 h=>MK (decide_eq_false h4)<|ai (aG ah a0.Ins)<|pL (decide_eq_false h4)<|bZ h (fun h5 h=>cP (decide_eq_true h5)<|cP (decide_eq_true h5)<|ai (decide_eq_true h5)<|ai ht<|ai ht<|ai ht<|ai ht<|ai tt<|aT h (mS a0 true [.sk,.sk,.sk,.sk,(.b true),(.b true),.sk,.sk,.sk,.sk,(.b (decide (5<(a0.Ins.length:Int)))),(.b (decide (5<(a0.Ins.length:Int)))),(.b (decide (5<(a0.Ins.length:Int)))),(I (a0.Ins.length:Int)),(.l 81 (a0.Ins.map ah)),(.p ⟨0,1⟩ 3)]) fun x6 h=>L h) (fun h5 h=>MK (decide_eq_false h5)<|ai (aG ah a0.Outs)<|pL (decide_eq_false h5)<|bZ h (fun h6 h=>Fp (decide_eq_true h6)<|aT h (mS a0 true [.sk,.sk,.sk,.sk,(.b (decide (5<(a0.Outs.length:Int)))),(.b (decide (5<(a0.Outs.length:Int)))),(.b (decide (5<(a0.Outs.length:Int)))),(I (a0.Outs.length:Int)),(.l 81 (a0.Outs.map ah)),(.p ⟨0,1⟩ 4),(.b (decide (5<(a0.Ins.length:Int)))),(.b (decide (5<(a0.Ins.length:Int)))),(.b (decide (5<(a0.Ins.length:Int)))),(I (a0.Ins.length:Int)),(.l 81 (a0.Ins.map ah)),(.p ⟨0,1⟩ 3)]) fun x7 h=>L h) (fun h6 h=>MK (decide_eq_false h6)<|ai (aG aS a0.Funcs)<|pL (decide_eq_false h6)<|aT h (mS a0 (decide (5<(a0.Funcs.length:Int))) [(.b (decide (5<(a0.Funcs.length:Int)))),(I (a0.Funcs.length:Int)),(.l 101 (a0.Funcs.map aS)),(.p ⟨0,1⟩ 6),(.b (decide (5<(a0.Outs.length:Int)))),(.b (decide (5<(a0.Outs.length:Int)))),(.b (decide (5<(a0.Outs.length:Int)))),(I (a0.Outs.length:Int)),(.l 81 (a0.Outs.map ah)),(.p ⟨0,1⟩ 4),(.b (decide (5<(a0.Ins.length:Int)))),(.b (decide (5<(a0.Ins.length:Int)))),(.b (decide (5<(a0.Ins.length:Int)))),(I (a0.Ins.length:Int)),(.l 81 (a0.Ins.map ah)),(.p ⟨0,1⟩ 3)]) fun x7 h=>L h)))
def me(r10:(List Label))(v0_58:Nat):Option (Nat⊕(Int⊕(Nat×Bool))):=
 if (v0_58:Int)<(r10.length:Int) then
  (r10[v0_58]?).bind fun (y13:Label)=>
  (ot a0.aa y13).bind fun (r15:Int)=>
  if (r15 !=0)=true then
   some (.inr (.inl r15))
  else
   if IntKind.i64.wrap ((v0_58:Int)+1)=((v0_58+1:Nat):Int) then
    some (.inl (v0_58+1))
   else none
 else
  some (.inr (.inr (v0_58,decide ((v0_58:Int)<(r10.length:Int)))))
abbrev Eo(r10:(List Label))(v:Nat):St:=⟨[(1,(.e (.a (ar a0)) 0)),(56,(.l 81 (r10.map ah))),(57,(I (r10.length:Int))),(58,(I (v:Int)))],[],H0⟩
abbrev sG(r10:(List Label))(x:(Int⊕(Nat×Bool))):aI×St:=match x with | .inl z1=>(.ret,⟨[(2,(I z1))],[],H0⟩) | .inr (z1,z2)=>((.ex 0),⟨[(1,(.e (.a (ar a0)) 0)),(56,(.l 81 (r10.map ah))),(57,(I (r10.length:Int))),(58,(I (z1:Int))),(59,(.b z2))],[],H0⟩)
theorem Di(r10:(List Label))(v0_58:Nat)(o:Nat⊕(Int⊕(Nat×Bool)))(h:me a0 r10 v0_58=some o):bB E0 QA (Eo a0 r10) (sG a0 r10) v0_58 o:=
 bL (.or (bt<|ao (.n v0_58)<|.ex fun (y13:Label)=>ao (.v (.a [(.l 138 (y13.Read.map au)),(.l 138 (y13.Write.map au))]))<|ew<|xI fun r15=>oN (ao (.i ((v0_58+1:Nat):Int))<|.nil)) (bf<|.nil)) fun L=>bZ h (fun h12 h=>ai (decide_eq_true h12)<|ai (rI v0_58)<|bO h fun y13 h14 h=>ai (aU ah h14)<|ML<|aT h (wK a0.aa y13) fun r15 h=>bE h (fun h17 h=>ai h17<|L h) (fun h17 h=>ai h17<|aR h fun w18 h=>ai w18<|L h)) (fun h12 h=>ai (decide_eq_false h12)<|L h)
def mg(v1_73:Nat):Option (Nat⊕(Int⊕(Nat×Bool))):=
 if (v1_73:Int)<(a0.Vars.length:Int) then
  (a0.Vars[v1_73]?).bind fun (y16:Var)=>
  (ot a0.aa y16.Label).bind fun (r18:Int)=>
  if (r18 !=0)=true then
   some (.inr (.inl r18))
  else
   if IntKind.i64.wrap ((v1_73:Int)+1)=((v1_73+1:Nat):Int) then
    some (.inl (v1_73+1))
   else none
 else
  some (.inr (.inr (v1_73,decide ((v1_73:Int)<(a0.Vars.length:Int)))))
abbrev Ep(v:Nat):St:=⟨[(1,(.e (.a (ar a0)) 0)),(71,(.l 83 (a0.Vars.map aW))),(72,(I (a0.Vars.length:Int))),(73,(I (v:Int)))],[],H0⟩
abbrev sH(x:(Int⊕(Nat×Bool))):aI×St:=match x with | .inl z1=>(.ret,⟨[(2,(I z1))],[],H0⟩) | .inr (z1,z2)=>((.ex 2),⟨[(1,(.e (.a (ar a0)) 0)),(71,(.l 83 (a0.Vars.map aW))),(72,(I (a0.Vars.length:Int))),(73,(I (z1:Int))),(74,(.b z2))],[],H0⟩)
theorem Dj(v1_73:Nat)(o:Nat⊕(Int⊕(Nat×Bool)))(h:mg a0 v1_73=some o):bB E0 QB (Ep a0) (sH a0) v1_73 o:=
 bL (.or (bt<|ao (.n v1_73)<|.ex fun (y16:Var)=>ao (.v (.a (Ho y16)))<|ew<|xI fun r18=>oN (ao (.i ((v1_73+1:Nat):Int))<|.nil)) (bf<|.nil)) fun L=>bZ h (fun h15 h=>ai (decide_eq_true h15)<|ai (rI v1_73)<|bO h fun y16 h17 h=>ai (aU aW h17)<|ML<|aT h (wK a0.aa y16.Label) fun r18 h=>bE h (fun h20 h=>ai h20<|L h) (fun h20 h=>ai h20<|aR h fun w21 h=>ai w21<|L h)) (fun h15 h=>ai (decide_eq_false h15)<|L h)
abbrev Hq(a0:Program)(r:Int):aQ×HP:=(.ret (I r),H0)
def rU:Option Int:=
 (mc a0.aa).bind fun (r1:Int)=>
 if (r1 !=0)=true then
  some r1
 else
  (nM a0).bind fun (x4:Bool)=>
  if x4=true then
   some 2
  else
   (ez a0.Speak a0).bind fun (r7:Bool)=>
   if r7=true then
    some 5
   else
    (fx ([a0.Ins,a0.Outs])).bind fun (r10:(List Label))=>
    (lp (fun v=>me a0 r10 v) 0).bind fun (x12:(Int⊕(Nat×Bool)))=>match x12 with
    | .inl ya_13=>
     some ya_13
    | .inr yb_13=>
     (lp (fun v=>mg a0 v) 0).bind fun (x15:(Int⊕(Nat×Bool)))=>match x15 with
     | .inl ya_16=>
      some ya_16
     | .inr yb_16=>
      (eA a0.Vars).bind fun (r18:Bool)=>
      if r18=true then
       some 1
      else
       some 0
theorem Dk(r:Int)(h:rU a0=some r):call G Ω0 E0 92 [(.a (ar a0))] H0=some (Hq a0 r):=
 aJ G92 (bt<|xI fun r1=>oN (.jb (some 16) 30<|.ex fun (x4:Bool)=>ao (.jn (wM a0 x4))<|oN (xB fun r7=>oN (ao (.l (([a0.Ins,a0.Outs]).map (cz 81 ah)))<|.ex fun (r10:(List Label))=>ao (.v (.l 81 (r10.map ah)))<|ao (.i (r10.length:Int))<|.or (.ex fun (ya_13:Int)=>ao (.cu (sG a0 r10 (.inl ya_13)))<|.nil) (.ex fun (yb_13:(Nat×Bool))=>ao (.cu (sG a0 r10 (.inr yb_13)))<|ao (.i (a0.Vars.length:Int))<|.or (.ex fun (ya_16:Int)=>ao (.cu (sH a0 (.inl ya_16)))<|.nil) (.ex fun (yb_16:(Nat×Bool))=>ao (.cu (sH a0 (.inr yb_16)))<|xB fun r18=>oN (.nil))))))) fun L=>dO<|aT h (uB a0.aa) fun r1 h=>bE h (fun h3 h=>ai h3<|L h) (fun h3 h=>ai h3<|aT h (B3 a0) fun x4 h=>bE h (fun h6 h=>ai h6<|L h) (fun h6 h=>uA h6<|aT h (nx a0.Speak a0) fun r7 h=>bE h (fun h9 h=>ai h9<|L h) (fun h9 h=>ai h9<|ai (rfl:[(.l 81 (a0.Ins.map ah)),(.l 81 (a0.Outs.map ah))]=([a0.Ins,a0.Outs]).map (cz 81 ah))<|aT h (sE ([a0.Ins,a0.Outs])) fun r10 h=>ai (aG ah r10)<|ec h (gl (Di a0 r10) 0) (fun ya_13 h=>L h) (fun yb_13 h=>ai (aG aW a0.Vars)<|ec h (gl (Dj a0) 0) (fun ya_16 h=>L h) (fun yb_16 h=>aT h (ny a0.Vars) fun r18 h=>bE h (fun h20 h=>ai h20<|L h) (fun h20 h=>ai h20<|L h))))))
end
section
variable (dp:Nat)(hp:HP)(k0:Key)
abbrev F5(dp:Nat)(hp:HP)(k0:Key)(a0:Stmt)(a1:Int)(c0:Int)(r:(Bool×Int)):aQ×HP:=(.ret (.b r.1),ab hp k0 [(I r.2)])
def uc(a0:Stmt)(a1:Int)(c0:Int):Option (Bool×Int):=
 if IntKind.i64.wrap (c0+1)=c0+1 then
  if (c0+1)≤50 then
   some ((decide (a1≤6)),(c0+1))
  else
   some (false,(c0+1))
 else none
theorem B4(hk_k0:k0.dp<dp)(hz:ax dp hp)(a0:Stmt)(a1:Int)(c0:Int)(r:(Bool×Int))(h:uc a0 a1 c0=some r):call G Ω0 ⟨dp,false⟩ 136 [(.a (aw a0)),(I a1),(.p k0 0)] (ab hp k0 [(I c0)])=some (F5 dp hp k0 a0 a1 c0 r):=
 aJ abV (bf<|ao (.l [(I c0)])<|ao (.i (c0+1))<|bf<|ao (.l [(I c0)])<|bf<|ao (.h (ab hp k0 [(I (c0+1))]))<|bf<|ao (.l [(I (c0+1))])<|.or (ew<|.nil) (Ft<|.nil)) fun L=>ai ((by simp [aw,AV.bb,AV.bM,AV.deep,AV.bP,aP hk_k0,Nat.le_of_lt hk_k0]):(((.a (aw a0)):AV).deep dp&&(([(0,(.a (aw a0))),(1,(I a1)),(2,(.p k0 0))]:List (Nat×AV)).all (fun y=>y.2.bb ⟨dp,3⟩)&&([]:List (Nat×List AV)).all (fun y=>AV.bM ⟨dp,3⟩ y.2)))=true)<|ai (Nat.ne_of_lt hk_k0)<|ai (cD hp k0 [(I c0)])<|aR h fun w1 h=>ai w1<|ai ff<|ai (Nat.ne_of_lt hk_k0)<|ai (cD hp k0 [(I c0)])<|ai tt<|ai (Nat.ne_of_lt hk_k0)<|ai (dI hp k0 [(I c0)] [(I (c0+1))])<|ai (Nat.ne_of_lt hk_k0)<|ai (cD hp k0 [(I (c0+1))])<|bZ h (fun h2 h=>tI (decide_eq_true h2)<|L h) (fun h2 h=>tI (decide_eq_false h2)<|L h)
end
section
variable (dp:Nat)(hp:HP)(k0:Key)(a0:(List Stmt))(a1:Int)(c0:Int)
abbrev uL(dp:Nat)(hp:HP)(k0:Key)(a0:(List Stmt))(a1:Int)(c0:Int)(r:(Bool×Int)):aQ×HP:=(.ret (.b r.1),ab hp k0 [(I r.2)])
abbrev jv(r:(Bool×Int)):Prop:=call G Ω0 ⟨dp,false⟩ 137 [(.l 92 (a0.map ay)),(I a1),(.f 136 [(.p k0 0)])] (ab hp k0 [(I c0)])=some (uL dp hp k0 a0 a1 c0 r)
end
structure jw where
 f_scope_Walk__scope_few_1:(List Stmt)→Int→Int→Option (Bool×Int)
structure jf(R:jw):Prop where
 f_scope_Walk__scope_few_1:∀ (dp:Nat)(hp:HP)(k0:Key)(hk_k0:k0.dp<dp)(hz:ax dp hp)(a0:(List Stmt))(a1:Int)(c0:Int)(r:(Bool×Int)),R.f_scope_Walk__scope_few_1 a0 a1 c0=some r→jv dp hp k0 a0 a1 c0 r
section
variable (R:jw)(a0:(List Stmt))(a1:Int)(dp:Nat)(hp:HP)(k0:Key)(c0:Int)
def eU(v0_11:Nat)(v0_k0_0:Int):Option ((Nat×Int)⊕(Int⊕(Nat×Bool×Int))):=
 if (v0_11:Int)<(a0.length:Int) then
  (a0[v0_11]?).bind fun (y2:Stmt)=>
  (uc y2 a1 v0_k0_0).bind fun (r4:(Bool×Int))=>
  if r4.1=true then
   if IntKind.i64.wrap (a1+1)=a1+1 then
    (R.f_scope_Walk__scope_few_1 y2.Then (a1+1) r4.2).bind fun (r8:(Bool×Int))=>
    if r8.1=true then
     (R.f_scope_Walk__scope_few_1 y2.Else (a1+1) r8.2).bind fun (r11:(Bool×Int))=>
     if r11.1=true then
      if IntKind.i64.wrap ((v0_11:Int)+1)=((v0_11+1:Nat):Int) then
       some (.inl (v0_11+1,r11.2))
      else none
     else
      some (.inr (.inl r11.2))
    else
     some (.inr (.inl r8.2))
   else none
  else
   some (.inr (.inl r4.2))
 else
  some (.inr (.inr (v0_11,decide ((v0_11:Int)<(a0.length:Int)),v0_k0_0)))
abbrev tM(dp:Nat)(hp:HP)(k0:Key)(a0:(List Stmt))(a1:Int)(v:(Nat×Int)):St:=⟨[(1,(I a1)),(2,(.f 136 [(.p k0 0)])),(9,(.l 92 (a0.map ay))),(10,(I (a0.length:Int))),(11,(I (v.1:Int)))],[],ab hp k0 [(I v.2)]⟩
abbrev iH(dp:Nat)(hp:HP)(k0:Key)(a0:(List Stmt))(a1:Int)(x:(Int⊕(Nat×Bool×Int))):aI×St:=match x with | .inl z1=>(.ret,⟨[(6,(.b false))],[],ab hp k0 [(I z1)]⟩) | .inr (z1,z2,z3)=>((.ex 0),⟨[(1,(I a1)),(2,(.f 136 [(.p k0 0)])),(9,(.l 92 (a0.map ay))),(10,(I (a0.length:Int))),(11,(I (z1:Int))),(12,(.b z2))],[],ab hp k0 [(I z3)]⟩)
theorem sI(hR:jf R)(dp:Nat)(hp:HP)(k0:Key)(hk_k0:k0.dp<dp)(hz:ax dp hp)(a0:(List Stmt))(a1:Int)(v0_11:Nat)(v0_k0_0:Int)(o:(Nat×Int)⊕(Int⊕(Nat×Bool×Int)))(h:eU R a0 a1 v0_11 v0_k0_0=some o):bB ⟨dp,false⟩ GY (tM dp hp k0 a0 a1) (iH dp hp k0 a0 a1) (v0_11,v0_k0_0) o:=
 bL (.or (bt<|ao (.n v0_11)<|.ex fun (y2:Stmt)=>ao (.v (.a (aw y2)))<|ew<|.ex fun (r4:(Bool×Int))=>ao (.v (.b r4.1))<|ao (.h (boxes dp [(8,(aw y2))] (ab hp k0 [(I r4.2)])))<|ao (.bx [(8,(aw y2))])<|ao (.h (ab hp k0 [(I r4.2)]))<|.or (tJ<|ao (.i (a1+1))<|gT<|.ex fun (r8:(Bool×Int))=>ao (.v (.b r8.1))<|ao (.h (boxes dp [(8,(aw y2))] (ab hp k0 [(I r8.2)])))<|ao (.bx [(8,(aw y2))])<|ao (.h (ab hp k0 [(I r8.2)]))<|vu<|.or (tJ<|ao (.i (a1+1))<|gT<|.ex fun (r11:(Bool×Int))=>ao (.v (.b r11.1))<|ao (.h (boxes dp [(8,(aw y2))] (ab hp k0 [(I r11.2)])))<|ao (.bx [(8,(aw y2))])<|ao (.h (ab hp k0 [(I r11.2)]))<|vu<|.or (bf<|ao (.i ((v0_11+1:Nat):Int))<|.nil) (bt<|.nil)) (U4<|.nil)) (U5<|.nil)) (bf<|.nil)) fun L=>bZ h (fun h1 h=>ai (decide_eq_true h1)<|ai (rI v0_11)<|bO h fun y2 h3 h=>ai (og ay h3 (je _))<|ai ((by simp [aw,AV.bb,AV.bM,AV.deep,AV.bP,aP hk_k0,Nat.le_of_lt hk_k0]):(([(14,(.a (aw y2))),(13,(.e (.a (aw y2)) 0)),(1,(I a1)),(2,(.f 136 [(.p k0 0)])),(9,(.l 92 (a0.map ay))),(10,(I (a0.length:Int))),(11,(I (v0_11:Int)))]:List (Nat×AV)).all (fun y=>y.2.bb ⟨dp,8⟩)&&([]:List (Nat×List AV)).all (fun y=>AV.bM ⟨dp,8⟩ y.2))=true)<|ai ff<|ai (rN dp)<|ai tt<|ai (rN dp)<|ai (rN dp)<|mO<|bO h fun r4 ek5 h=>have ek5:=cO hk_k0 (B4 (dp+1) (boxes dp [(8,(aw y2))] (ab hp k0 [(I v0_k0_0)])) k0 (Nat.lt_succ_of_lt hk_k0) (bX (aF hk_k0 (hz))) y2 a1 v0_k0_0 _ ek5);ai ek5<|ai (oi ek5 (by kernel_rfl) (by kernel_rfl))<|ai (oj ek5 (aF hk_k0 (hz)))<|bE h (fun h6 h=>cP (congrArg not h6)<|ai (rN dp)<|cP (congrArg not h6)<|aR h fun w7 h=>ai w7<|cP (congrArg not h6)<|mO<|bO h fun r8 ek9 h=>have ek9:=cO hk_k0 (hR.f_scope_Walk__scope_few_1 (dp+1) (boxes dp [(8,(aw y2))] (ab hp k0 [(I r4.2)])) k0 (Nat.lt_succ_of_lt hk_k0) (bX (aF hk_k0 (hz))) y2.Then (a1+1) r4.2 _ ek9);ai ek9<|ai (oi ek9 (by kernel_rfl) (by kernel_rfl))<|ai (oj ek9 (aF hk_k0 (hz)))<|pL (congrArg not h6)<|bE h (fun h10 h=>cP (congrArg not h10)<|ai (rN dp)<|cP (congrArg not h10)<|ai w7<|cP (congrArg not h10)<|mO<|bO h fun r11 ek12 h=>have ek12:=cO hk_k0 (hR.f_scope_Walk__scope_few_1 (dp+1) (boxes dp [(8,(aw y2))] (ab hp k0 [(I r8.2)])) k0 (Nat.lt_succ_of_lt hk_k0) (bX (aF hk_k0 (hz))) y2.Else (a1+1) r8.2 _ ek12);ai ek12<|ai (oi ek12 (by kernel_rfl) (by kernel_rfl))<|ai (oj ek12 (aF hk_k0 (hz)))<|pL (congrArg not h10)<|bE h (fun h13 h=>ai (congrArg not h13)<|aR h fun w14 h=>ai w14<|L h) (fun h13 h=>ai (congrArg not h13)<|L h)) (fun h10 h=>cP (congrArg not h10)<|cP (congrArg not h10)<|cP (congrArg not h10)<|pL (congrArg not h10)<|ai tt<|L h)) (fun h6 h=>cP (congrArg not h6)<|cP (congrArg not h6)<|cP (congrArg not h6)<|pL (congrArg not h6)<|ai ht<|ai ht<|ai ht<|ai ht<|ai ht<|ai ht<|ai ht<|bJ<|L h)) (fun h1 h=>ai (decide_eq_false h1)<|L h)
def e6:Option (Bool×Int):=
 (lp (fun v=>eU R a0 a1 v.1 v.2) (0,c0)).bind fun (x1:(Int⊕(Nat×Bool×Int)))=>match x1 with
 | .inl ya_2=>
  some (false,ya_2)
 | .inr yb_2=>
  some (true,yb_2.2.2)
theorem si(hR:jf R)(dp:Nat)(hp:HP)(k0:Key)(hk_k0:k0.dp<dp)(hz:ax dp hp)(a0:(List Stmt))(a1:Int)(c0:Int)(r:(Bool×Int))(h:e6 R a0 a1 c0=some r):jv dp hp k0 a0 a1 c0 r:=
 aJ UC (ao (.i (a0.length:Int))<|.or (.ex fun (ya_2:Int)=>ao (.cu (iH dp hp k0 a0 a1 (.inl ya_2)))<|.nil) (.ex fun (yb_2:(Nat×Bool×Int))=>ao (.cu (iH dp hp k0 a0 a1 (.inr yb_2)))<|.nil)) fun L=>ai (aG ay a0)<|ec h (gl (fun v=>sI R hR dp hp k0 hk_k0 hz a0 a1 v.1 v.2) (0,c0)) (fun ya_2 h=>L h) (fun yb_2 h=>L h)
def cZ:Nat→jw
 | 0=>⟨fun z0 z1 z2=>none⟩
 | n+1=>⟨e6 (cZ n)⟩
theorem m8:∀ n,jf (cZ n)
 | 0=>⟨fun _ _ _ _ _ _ _ _ r h=>(by cases h)⟩
 | n+1=>⟨fun dp hp k0 hk_k0 hz a0 a1 c0 r h=>si _ (m8 n) dp hp k0 hk_k0 hz a0 a1 c0 r h⟩
def fA:Option (Bool×Int):=ev fun n=>(cZ n).f_scope_Walk__scope_few_1 a0 a1 c0
theorem mh(hk_k0:k0.dp<dp)(hz:ax dp hp)(a0:(List Stmt))(a1:Int)(c0:Int)(r:(Bool×Int))(h:fA a0 a1 c0=some r):jv dp hp k0 a0 a1 c0 r:=by
 obtain ⟨n,hn⟩:=vc h
 exact (m8 n).f_scope_Walk__scope_few_1 dp hp k0 hk_k0 hz a0 a1 c0 r hn
end
section
variable (a0:Program)
def qQ(v0_11:Nat)(v0_3_0:Int):Option ((Nat×Int)⊕(Unit⊕(Nat×Bool×Int))):=
 if (v0_11:Int)<(a0.Funcs.length:Int) then
  (a0.Funcs[v0_11]?).bind fun (y2:Func)=>
  (fA y2.Body 1 v0_3_0).bind fun (r4:(Bool×Int))=>
  if r4.1=true then
   if IntKind.i64.wrap ((v0_11:Int)+1)=((v0_11+1:Nat):Int) then
    some (.inl (v0_11+1,r4.2))
   else none
  else
   some (.inr (.inl ()))
 else
  some (.inr (.inr (v0_11,decide ((v0_11:Int)<(a0.Funcs.length:Int)),v0_3_0)))
abbrev F6(v:(Nat×Int)):St:=⟨[(1,(.p ⟨0,1⟩ 0)),(4,(.f 136 [(.p ⟨0,3⟩ 0)])),(9,(.l 101 (a0.Funcs.map aS))),(10,(I (a0.Funcs.length:Int))),(11,(I (v.1:Int)))],[(1,(ar a0)),(3,[(I v.2)])],H0⟩
abbrev ud(x:(Unit⊕(Nat×Bool×Int))):aI×St:=match x with | .inl ()=>(.ret,⟨[(2,(.b false))],[],H0⟩) | .inr (z1,z2,z3)=>((.ex 0),⟨[(1,(.p ⟨0,1⟩ 0)),(4,(.f 136 [(.p ⟨0,3⟩ 0)])),(9,(.l 101 (a0.Funcs.map aS))),(10,(I (a0.Funcs.length:Int))),(11,(I (z1:Int))),(12,(.b z2))],[(1,(ar a0)),(3,[(I z3)])],H0⟩)
theorem Er(v0_11:Nat)(v0_3_0:Int)(o:(Nat×Int)⊕(Unit⊕(Nat×Bool×Int)))(h:qQ a0 v0_11 v0_3_0=some o):bB E0 QC (F6 a0) (ud a0) (v0_11,v0_3_0) o:=
 bL (.or (bt<|ao (.n v0_11)<|.ex fun (y2:Func)=>ao (.v (.a (dB y2)))<|ew<|.ex fun (r4:(Bool×Int))=>ao (.v (.b r4.1))<|ao (.h (boxes 0 [(1,(ar a0)),(3,[(I r4.2)]),(6,(dB y2))] H0))<|ao (.bx [(1,(ar a0)),(3,[(I r4.2)]),(6,(dB y2))])<|ao (.h (H0))<|.or (bf<|ao (.i ((v0_11+1:Nat):Int))<|.nil) (bt<|.nil)) (bf<|.nil)) fun L=>bZ h (fun h1 h=>ai (decide_eq_true h1)<|ai (rI v0_11)<|bO h fun y2 h3 h=>ai (aU aS h3)<|ai tt<|jd<|dO<|ai (rfl:Z0)<|mO<|bO h fun r4 ek5 h=>have ek5:call G Ω0 ⟨0+1,false⟩ 137 [(.l 92 (y2.Body.map ay)),(I 1),(.f 136 [(.p ⟨0,3⟩ 0)])] (boxes 0 [(1,(ar a0)),(3,[(I v0_3_0)]),(6,(dB y2))] H0)=some (.ret (.b r4.1),boxes 0 [(1,(ar a0)),(3,[(I r4.2)]),(6,(dB y2))] H0):=jP (dN (bx1:=[(1,(ar a0)),(3,[(I v0_3_0)]),(6,(dB y2))]) (by kernel_rfl) (by kernel_rfl)) (dN (bx1:=[(1,(ar a0)),(3,[(I r4.2)]),(6,(dB y2))]) (by kernel_rfl) (by kernel_rfl)) (mh (0+1) (boxes 0 [(1,(ar a0)),(3,[(I v0_3_0)]),(6,(dB y2))] H0) ⟨0,3⟩ (Nat.lt_succ_self 0) (bX (oh 0)) y2.Body 1 v0_3_0 _ ek5);ai ek5<|ai (oi ek5 (by kernel_rfl) (by kernel_rfl))<|ai (oj ek5 (oh 0))<|bE h (fun h6 h=>ai (congrArg not h6)<|aR h fun w7 h=>ai w7<|L h) (fun h6 h=>ai (congrArg not h6)<|L h)) (fun h1 h=>ai (decide_eq_false h1)<|L h)
abbrev Jf(a0:Program)(r:Bool):aQ×HP:=(.ret (.b r),H0)
def tm:Option Bool:=
 (lp (fun v=>qQ a0 v.1 v.2) (0,0)).bind fun (x1:(Unit⊕(Nat×Bool×Int)))=>match x1 with
 | .inl ya_2=>
  some false
 | .inr yb_2=>
  (fA a0.Main 1 yb_2.2.2).bind fun (r4:(Bool×Int))=>
  some r4.1
theorem Es(r:Bool)(h:tm a0=some r):call G Ω0 E0 93 [(.a (ar a0))] H0=some (Jf a0 r):=
 aJ G93 (ew<|ao (.i (a0.Funcs.length:Int))<|.or (.ex fun (ya_2:Unit)=>ao (.cu (ud a0 (.inl ya_2)))<|.nil) (.ex fun (yb_2:(Nat×Bool×Int))=>ao (.cu (ud a0 (.inr yb_2)))<|bt<|.ex fun (r4:(Bool×Int))=>ao (.v (.b r4.1))<|ao (.h (boxes 0 [(1,(ar a0)),(3,[(I r4.2)])] H0))<|ao (.bx [(1,(ar a0)),(3,[(I r4.2)])])<|ao (.h (H0))<|.nil)) fun L=>bJ<|jd<|dO<|ai (rfl:Z0)<|ai (aG aS a0.Funcs)<|ec h (gl (fun v=>Er a0 v.1 v.2) (0,0)) (fun ya_2 h=>L h) (fun yb_2 h=>ai (rfl:Z0)<|mO<|bO h fun r4 ek5 h=>have ek5:call G Ω0 ⟨0+1,false⟩ 137 [(.l 92 (a0.Main.map ay)),(I 1),(.f 136 [(.p ⟨0,3⟩ 0)])] (boxes 0 [(1,(ar a0)),(3,[(I yb_2.2.2)])] H0)=some (.ret (.b r4.1),boxes 0 [(1,(ar a0)),(3,[(I r4.2)])] H0):=jP (dN (bx1:=[(1,(ar a0)),(3,[(I yb_2.2.2)])]) (by kernel_rfl) (by kernel_rfl)) (dN (bx1:=[(1,(ar a0)),(3,[(I r4.2)])]) (by kernel_rfl) (by kernel_rfl)) (mh (0+1) (boxes 0 [(1,(ar a0)),(3,[(I yb_2.2.2)])] H0) ⟨0,3⟩ (Nat.lt_succ_self 0) (bX (oh 0)) a0.Main 1 yb_2.2.2 _ ek5);ai ek5<|ai (oi ek5 (by kernel_rfl) (by kernel_rfl))<|ai (oj ek5 (oh 0))<|L h)
end
section
variable (a0:(List Int))(a1:Int)
def jx(v0_8:Nat):Option (Nat⊕(Nat⊕(Nat×Bool))):=
 if (v0_8:Int)<(a0.length:Int) then
  (a0[v0_8]?).bind fun (y2:Int)=>
  if (a1==y2)=true then
   some (.inr (.inl v0_8))
  else
   if IntKind.i64.wrap ((v0_8:Int)+1)=((v0_8+1:Nat):Int) then
    some (.inl (v0_8+1))
   else none
 else
  some (.inr (.inr (v0_8,decide ((v0_8:Int)<(a0.length:Int)))))
abbrev yH(v:Nat):St:=⟨[(0,(.l 3 (a0.map (I)))),(1,(I a1)),(7,(I (a0.length:Int))),(8,(I (v:Int)))],[],H0⟩
abbrev mT(x:(Nat⊕(Nat×Bool))):aI×St:=match x with | .inl z1=>(.ret,⟨[(4,(I (z1:Int)))],[],H0⟩) | .inr (z1,z2)=>((.ex 0),⟨[(0,(.l 3 (a0.map (I)))),(1,(I a1)),(7,(I (a0.length:Int))),(8,(I (z1:Int))),(9,(.b z2))],[],H0⟩)
theorem xG(v0_8:Nat)(o:Nat⊕(Nat⊕(Nat×Bool)))(h:jx a0 a1 v0_8=some o):bB E0 Mx (yH a0 a1) (mT a0 a1) v0_8 o:=
 bL (.or (bt<|ao (.n v0_8)<|xI fun y2=>oN (ao (.i ((v0_8+1:Nat):Int))<|.nil)) (bf<|.nil)) fun L=>bZ h (fun h1 h=>ai (decide_eq_true h1)<|ai (rI v0_8)<|bO h fun y2 h3 h=>ai (aU (I) h3)<|bE h (fun h4 h=>ai h4<|L h) (fun h4 h=>ai h4<|aR h fun w5 h=>ai w5<|L h)) (fun h1 h=>ai (decide_eq_false h1)<|L h)
abbrev Ad(a0:(List Int))(a1:Int)(r:Int):aQ×HP:=(.ret (I r),H0)
def ou:Option Int:=
 (lp (fun v=>jx a0 a1 v) 0).bind fun (x1:(Nat⊕(Nat×Bool)))=>match x1 with
 | .inl ya_2=>
  some (ya_2:Int)
 | .inr yb_2=>
  some (-1)
theorem xH(r:Int)(h:ou a0 a1=some r):call G Ω0 E0 157 [(.l 3 (a0.map (I))),(I a1)] H0=some (Ad a0 a1 r):=
 aJ ab6 (ao (.i (a0.length:Int))<|.or (.ex fun (ya_2:Nat)=>ao (.cu (mT a0 a1 (.inl ya_2)))<|.nil) (.ex fun (yb_2:(Nat×Bool))=>ao (.cu (mT a0 a1 (.inr yb_2)))<|.nil)) fun L=>ai (aG (I) a0)<|ec h (gl (xG a0 a1) 0) (fun ya_2 h=>L h) (fun yb_2 h=>L h)
abbrev xJ(a0:(List Int))(a1:Int)(r:Bool):aQ×HP:=(.ret (.b r),H0)
def iU:Option Bool:=
 (ou a0 a1).bind fun (r1:Int)=>
 some (decide (0≤r1))
theorem vz(r:Bool)(h:iU a0 a1=some r):call G Ω0 E0 138 [(.l 3 (a0.map (I))),(I a1)] H0=some (xJ a0 a1 r):=
 aJ abW (xI fun r1=>.nil) fun L=>aT h (xH a0 a1) fun r1 h=>L h
end
section
variable (a0:Int)(dp:Nat)(hp:HP)(k0:Key)(c0:Checker)
abbrev F7(a0:Int)(r:(Bool×Bool×Bool)):aQ×HP:=(.ret (.tp [(.b r.1),(.b r.2.1),(.b r.2.2)]),H0)
def qR:Option (Bool×Bool×Bool):=
 if (a0 !=4)=true then
  if 2≤a0 then
   if (a0 !=2)=true then
    some ((decide (a0<7)),(decide (a0≤4)),(a0 !=3))
   else
    some ((decide (a0<7)),(decide (a0≤4)),false)
  else
   if (a0 !=2)=true then
    some ((decide (a0<7)),false,(a0 !=3))
   else
    some ((decide (a0<7)),false,false)
 else
  if 2≤a0 then
   if (a0 !=2)=true then
    some (false,(decide (a0≤4)),(a0 !=3))
   else
    some (false,(decide (a0≤4)),false)
  else
   if (a0 !=2)=true then
    some (false,false,(a0 !=3))
   else
    some (false,false,false)
theorem B5(r:(Bool×Bool×Bool))(h:qR a0=some r):call G Ω0 E0 158 [(I a0)] H0=some (F7 a0 r):=
 aJ ab7 (.or (ew<|.or (ew<|.or (ew<|.nil) (Ft<|.nil)) (Ft<|.or (ew<|.nil) (Ft<|.nil))) (Ft<|.or (ew<|.or (ew<|.nil) (Ft<|.nil)) (Ft<|.or (ew<|.nil) (Ft<|.nil)))) fun L=>bE h (fun h1 h=>tI h1<|bZ h (fun h2 h=>tI (decide_eq_true h2)<|bE h (fun h3 h=>tI h3<|L h) (fun h3 h=>tI h3<|L h)) (fun h2 h=>tI (decide_eq_false h2)<|bE h (fun h3 h=>tI h3<|L h) (fun h3 h=>tI h3<|L h))) (fun h1 h=>tI h1<|bZ h (fun h2 h=>tI (decide_eq_true h2)<|bE h (fun h3 h=>tI h3<|L h) (fun h3 h=>tI h3<|L h)) (fun h2 h=>tI (decide_eq_false h2)<|bE h (fun h3 h=>tI h3<|L h) (fun h3 h=>tI h3<|L h)))
abbrev xm(dp:Nat)(hp:HP)(k0:Key)(c0:Checker)(a0:Int)(r:Int):aQ×HP:=(.ret (I r),ab hp k0 (an c0))
def iv(a0:Int):Option Int:=
 if (a0==2)=true then
  some c0.funcs
 else
  if (a0==3)=true then
   some (c0.p.Ins.length:Int)
  else
   some (c0.p.Outs.length:Int)
theorem uM(hk_k0:k0.dp<dp)(hz:ax dp hp)(c0:Checker)(a0:Int)(r:Int)(h:iv c0 a0=some r):call G Ω0 ⟨dp,true⟩ 159 [(.p k0 0),(I a0)] (ab hp k0 (an c0))=some (xm dp hp k0 c0 a0 r):=
 aJ ab8 (.or (vu<|ao (.l (an c0))<|.nil) (bf<|.or (vu<|ao (.l (an c0))<|ao (.i (c0.p.Ins.length:Int))<|.nil) (bf<|bf<|ao (.l (an c0))<|ao (.i (c0.p.Outs.length:Int))<|.nil))) fun L=>bE h (fun h1 h=>ai h1<|ai (Nat.ne_of_lt hk_k0)<|ai (cD hp k0 (an c0))<|L h) (fun h1 h=>ai h1<|bE h (fun h2 h=>ai h2<|ai (Nat.ne_of_lt hk_k0)<|ai (cD hp k0 (an c0))<|ai (aG ah c0.p.Ins)<|L h) (fun h2 h=>ai h2<|ai (Nat.ne_of_lt hk_k0)<|ai (cD hp k0 (an c0))<|ai (aG ah c0.p.Outs)<|L h))
end
section
variable (a0:ak)(a1:Int)
abbrev Hr(a0:ak)(a1:Int)(r:Int):aQ×HP:=(.ret (I r),H0)
abbrev vA(r:Int):Prop:=call G Ω0 E0 111 [(.a (dc a0)),(I a1)] H0=some (Hr a0 a1 r)
end
structure vB where
 f_scope_size:ak→Int→Option Int
structure ue(R:vB):Prop where
 f_scope_size:∀ (a0:ak)(a1:Int)(r:Int),R.f_scope_size a0 a1=some r→vA a0 a1 r
section
variable (R:vB)(a0:ak)(a1:Int)
def pn(v0_5:Int)(v0_11:Nat):Option ((Int×Nat)⊕((Int×Nat×Bool×ak)⊕(Int×Nat×Bool))):=
 if (v0_11:Int)<(a0.Args.length:Int) then
  (a0.Args[v0_11]?).bind fun (y2:ak)=>
  if a1<v0_5 then
   some (.inr (.inl (v0_5,v0_11,decide (a1<v0_5),y2)))
  else
   if IntKind.i64.wrap (a1 - v0_5)=a1 - v0_5 then
    (R.f_scope_size y2 (a1 - v0_5)).bind fun (r6:Int)=>
    if IntKind.i64.wrap (v0_5+r6)=v0_5+r6 then
     if IntKind.i64.wrap ((v0_11:Int)+1)=((v0_11+1:Nat):Int) then
      some (.inl (v0_5+r6,v0_11+1))
     else none
    else none
   else none
 else
  some (.inr (.inr (v0_5,v0_11,decide ((v0_11:Int)<(a0.Args.length:Int)))))
abbrev Et(v:(Int×Nat)):St:=⟨[(1,(I a1)),(5,(I v.1)),(9,(.l 37 (a0.Args.map az))),(10,(I (a0.Args.length:Int))),(11,(I (v.2:Int)))],[],H0⟩
abbrev sJ(x:((Int×Nat×Bool×ak)⊕(Int×Nat×Bool))):aI×St:=match x with | .inl (z1,z2,z3,z4)=>((.ex 0),⟨[(1,(I a1)),(5,(I z1)),(7,(.p ⟨0,7⟩ 0)),(9,(.l 37 (a0.Args.map az))),(10,(I (a0.Args.length:Int))),(11,(I (z2:Int))),(17,(.b z3))],[(7,(dc z4))],H0⟩) | .inr (z1,z2,z3)=>((.ex 0),⟨[(1,(I a1)),(5,(I z1)),(9,(.l 37 (a0.Args.map az))),(10,(I (a0.Args.length:Int))),(11,(I (z2:Int))),(12,(.b z3))],[],H0⟩)
theorem Dl(hR:ue R)(a0:ak)(a1:Int)(v0_5:Int)(v0_11:Nat)(o:(Int×Nat)⊕((Int×Nat×Bool×ak)⊕(Int×Nat×Bool)))(h:pn R a0 a1 v0_5 v0_11=some o):bB E0 Mg (Et a0 a1) (sJ a0 a1) (v0_5,v0_11) o:=
 bL (.or (bt<|ao (.n v0_11)<|.ex fun (y2:ak)=>ao (.v (.a (dc y2)))<|gT<|oN (bt<|ao (.i (a1 - v0_5))<|xI fun r6=>ao (.i (v0_5+r6))<|ao (.i ((v0_11+1:Nat):Int))<|.nil)) (bf<|.nil)) fun L=>bZ h (fun h1 h=>ai (decide_eq_true h1)<|ai (rI v0_11)<|bO h fun y2 h3 h=>ai (og az h3 (dt _))<|ai tt<|jd<|dO<|bZ h (fun h4 h=>ai (decide_eq_true h4)<|L h) (fun h4 h=>uA (decide_eq_false h4)<|aR h fun w5 h=>ai w5<|aT h (hR.f_scope_size y2 (a1 - v0_5)) fun r6 h=>aR h fun w8 h=>ai w8<|aR h fun w9 h=>ai w9<|L h)) (fun h1 h=>ai (decide_eq_false h1)<|L h)
def qS:Option Int:=
 (lp (fun v=>pn R a0 a1 v.1 v.2) (1,0)).bind fun (x1:((Int×Nat×Bool×ak)⊕(Int×Nat×Bool)))=>match x1 with
 | .inl ya_2=>
  some ya_2.1
 | .inr yb_2=>
  some yb_2.1
theorem B6(hR:ue R)(a0:ak)(a1:Int)(r:Int)(h:qS R a0 a1=some r):vA a0 a1 r:=
 aJ abH (bt<|ao (.i (a0.Args.length:Int))<|.or (.ex fun (ya_2:(Int×Nat×Bool×ak))=>ao (.cu (sJ a0 a1 (.inl ya_2)))<|.nil) (.ex fun (yb_2:(Int×Nat×Bool))=>ao (.cu (sJ a0 a1 (.inr yb_2)))<|.nil)) fun L=>dO<|ai (aG az a0.Args)<|ec h (gl (fun v=>Dl R hR a0 a1 v.1 v.2) (1,0)) (fun ya_2 h=>L h) (fun yb_2 h=>L h)
def mi:Nat→vB
 | 0=>⟨fun z0 z1=>none⟩
 | n+1=>⟨qS (mi n)⟩
theorem zw:∀ n,ue (mi n)
 | 0=>⟨fun _ _ r h=>(by cases h)⟩
 | n+1=>⟨fun a0 a1 r h=>B6 _ (zw n) a0 a1 r h⟩
def vC:Option Int:=ev fun n=>(mi n).f_scope_size a0 a1
theorem Dm(r:Int)(h:vC a0 a1=some r):vA a0 a1 r:=by
 obtain ⟨n,hn⟩:=vc h
 exact (zw n).f_scope_size a0 a1 r hn
def wN:List dL:=(gA 23 45)::[]
def eV(a0:ak)(a1:Int)(w1_1:Nat)(u2_1:Bool):Option Bool:=
 some u2_1
abbrev fS(w1_1:Nat)(u2_1:Bool)(x:Bool):St:=⟨[(1,(I a1)),(2,(.p ⟨0,2⟩ 0)),(23,(.b x))],[(2,(dc a0))],H0⟩
theorem ik(w1_1:Nat)(u2_1:Bool)(w:List AV)(x:Bool)(h:eV a0 a1 w1_1 u2_1=some x):nv G Ω0 E0 [1,2,23] [2] wN ⟨[(45,(.b u2_1)),(44,(W w 0)),(43,(W w 1)),(42,(W w 2)),(41,(W w 3)),(40,(W w 4)),(39,(W w 5)),(38,(W w 6)),(37,(W w 7)),(36,(W w 8)),(35,(W w 9)),(34,(W w 10)),(33,(W w 11)),(32,(W w 12)),(31,(W w 13)),(30,(W w 14)),(29,(W w 15)),(28,(W w 16)),(27,(.b (a0.Kind==1))),(26,(.b (a0.Kind==1))),(25,(I a0.Kind)),(24,(.p ⟨0,2⟩ 0)),(1,(I a1)),(2,(.p ⟨0,2⟩ 0)),(5,(I (w1_1:Int))),(17,(.b ((a0.Args.length:Int) !=(w1_1:Int))))],[(2,(dc a0))],H0⟩=some (fS a0 a1 w1_1 u2_1 x):=
 m7 (.nil) fun L=>L h
def Dn:List dL:=(gF 24 0 2)::(gQ 25 24)::(gB 26 .eql 25 (kI 1))::(gM 27 26)::⟨some 28,.fa 1 2,some ⟨27,true⟩,false⟩::⟨some 29,.ld none 28,some ⟨27,true⟩,false⟩::⟨some 30,.bo .lss false 29 (kI (-9999999)),some ⟨27,true⟩,false⟩::⟨some 31,.mv 30,some ⟨27,true⟩,false⟩::⟨some 32,.fa 1 2,some ⟨31,false⟩,false⟩::⟨some 33,.ld none 32,some ⟨31,false⟩,false⟩::⟨some 34,.bo .gtr false 33 (kI 9999999),some ⟨31,false⟩,false⟩::⟨some 35,.pk 31 (.c (.b true)) 34,some ⟨27,true⟩,false⟩::(gp 36 (.pk 27 35 (.c (.b false))))::(gM 37 36)::⟨some 38,.mv 5,some ⟨37,false⟩,false⟩::⟨some 39,.bo .gtr false 38 (kI 0),some ⟨37,false⟩,false⟩::⟨some 40,.mv 39,some ⟨37,false⟩,false⟩::⟨some 41,.fa 1 2,some ⟨40,true⟩,false⟩::⟨some 42,.ld none 41,some ⟨40,true⟩,false⟩::⟨some 43,.bo .neq false 42 (kI 0),some ⟨40,true⟩,false⟩::⟨some 44,.pk 40 43 (.c (.b false)),some ⟨37,false⟩,false⟩::(gp 45 (.pk 37 (.c (.b true)) 44))::wN
def nN(w1_1:Nat):Option Bool:=
 if (a0.Kind==1)=true then
  if a0.N < -9999999 then
   (eV a0 a1 w1_1 true).bind fun (x7:Bool)=>
   some x7
  else
   if 9999999<a0.N then
    (eV a0 a1 w1_1 true).bind fun (x8:Bool)=>
    some x8
   else
    if 0<(w1_1:Int) then
     (eV a0 a1 w1_1 (a0.N !=0)).bind fun (x9:Bool)=>
     some x9
    else
     (eV a0 a1 w1_1 false).bind fun (x9:Bool)=>
     some x9
 else
  if 0<(w1_1:Int) then
   (eV a0 a1 w1_1 (a0.N !=0)).bind fun (x7:Bool)=>
   some x7
  else
   (eV a0 a1 w1_1 false).bind fun (x7:Bool)=>
   some x7
abbrev wO(w1_1:Nat)(x:Bool):St:=⟨[(1,(I a1)),(2,(.p ⟨0,2⟩ 0)),(23,(.b x))],[(2,(dc a0))],H0⟩
theorem B7(w1_1:Nat)(x:Bool)(h:nN a0 a1 w1_1=some x):nv G Ω0 E0 [1,2,23] [2] Dn ⟨[(1,(I a1)),(2,(.p ⟨0,2⟩ 0)),(5,(I (w1_1:Int))),(17,(.b ((a0.Args.length:Int) !=(w1_1:Int))))],[(2,(dc a0))],H0⟩=some (wO a0 a1 w1_1 x):=
 m7 (bt<|.or (tJ<|.or (bf<|bf<|bf<|bt<|bt<|bt<|bf<|bf<|bf<|bf<|bt<|.jb (some 23) 0<|.ex fun (x7:Bool)=>ao (.jn (fS a0 a1 w1_1 true x7))<|.nil) (bt<|bt<|bt<|bt<|bt<|bf<|bt<|.or (Fs<|.jb (some 23) 0<|.ex fun (x8:Bool)=>ao (.jn (fS a0 a1 w1_1 true x8))<|.nil) (ew<|.or (MO<|.jb (some 23) 0<|.ex fun (x9:Bool)=>ao (.jn (fS a0 a1 w1_1 (a0.N !=0) x9))<|.nil) (Lm<|.jb (some 23) 0<|.ex fun (x9:Bool)=>ao (.jn (fS a0 a1 w1_1 false x9))<|.nil)))) (bf<|bf<|bf<|bf<|bf<|bf<|bt<|bt<|bt<|.or (MO<|.jb (some 23) 0<|.ex fun (x7:Bool)=>ao (.jn (fS a0 a1 w1_1 (a0.N !=0) x7))<|.nil) (Lm<|.jb (some 23) 0<|.ex fun (x7:Bool)=>ao (.jn (fS a0 a1 w1_1 false x7))<|.nil))) fun L=>ai (rfl:Z0)<|bE h (fun h5 h=>bG h5<|ai (rfl:Z0)<|bG h5<|bZ h (fun h6 h=>Fq (decide_eq_true h6)<|ai (g1 h5)<|ai (decide_eq_true h6)<|ai h5<|ai ht<|ai ht<|ai ht<|ai ht<|ai tt<|aT h (ik a0 a1 w1_1 true [.sk,.sk,.sk,.sk,.sk,.sk,.sk,(.b true),(.b true),(.b true),.sk,.sk,.sk,(.b (decide (a0.N < -9999999))),(.b (decide (a0.N < -9999999))),(I a0.N),(.p ⟨0,2⟩ 1)]) fun x7 h=>L h) (fun h6 h=>MK (decide_eq_false h6)<|ai (g1 h5)<|ai (decide_eq_false h6)<|ai h5<|bZ h (fun h7 h=>Fp (decide_eq_true h7)<|aT h (ik a0 a1 w1_1 true [.sk,.sk,.sk,.sk,.sk,.sk,.sk,(.b (decide (9999999<a0.N))),(.b (decide (9999999<a0.N))),(.b (decide (9999999<a0.N))),(.b (decide (9999999<a0.N))),(I a0.N),(.p ⟨0,2⟩ 1),(.b (decide (a0.N < -9999999))),(.b (decide (a0.N < -9999999))),(I a0.N),(.p ⟨0,2⟩ 1)]) fun x8 h=>L h) (fun h7 h=>Fq (decide_eq_false h7)<|bZ h (fun h8 h=>bG (decide_eq_true h8)<|ai (rfl:Z0)<|ai (g1 (decide_eq_true h8))<|ai (g0 (decide_eq_false h7))<|ai (decide_eq_true h8)<|ai (decide_eq_false h7)<|aT h (ik a0 a1 w1_1 (a0.N !=0) [(.b (a0.N !=0)),(.b (a0.N !=0)),(I a0.N),(.p ⟨0,2⟩ 1),(.b (decide (0<(w1_1:Int)))),(.b (decide (0<(w1_1:Int)))),(I (w1_1:Int)),(.b (decide (9999999<a0.N))),(.b (decide (9999999<a0.N))),(.b (decide (9999999<a0.N))),(.b (decide (9999999<a0.N))),(I a0.N),(.p ⟨0,2⟩ 1),(.b (decide (a0.N < -9999999))),(.b (decide (a0.N < -9999999))),(I a0.N),(.p ⟨0,2⟩ 1)]) fun x9 h=>L h) (fun h8 h=>JW (decide_eq_false h8)<|ai (g0 (decide_eq_false h7))<|ai (decide_eq_false h8)<|ai (decide_eq_false h7)<|aT h (ik a0 a1 w1_1 false [(.b false),.sk,.sk,.sk,(.b (decide (0<(w1_1:Int)))),(.b (decide (0<(w1_1:Int)))),(I (w1_1:Int)),(.b (decide (9999999<a0.N))),(.b (decide (9999999<a0.N))),(.b (decide (9999999<a0.N))),(.b (decide (9999999<a0.N))),(I a0.N),(.p ⟨0,2⟩ 1),(.b (decide (a0.N < -9999999))),(.b (decide (a0.N < -9999999))),(I a0.N),(.p ⟨0,2⟩ 1)]) fun x9 h=>L h)))) (fun h5 h=>bG h5<|bG h5<|sj h5<|ai hf<|ai hf<|ai hf<|bZ h (fun h6 h=>bG (decide_eq_true h6)<|ai (rfl:Z0)<|ai (g1 (decide_eq_true h6))<|ai hf<|ai (decide_eq_true h6)<|ai ff<|aT h (ik a0 a1 w1_1 (a0.N !=0) [(.b (a0.N !=0)),(.b (a0.N !=0)),(I a0.N),(.p ⟨0,2⟩ 1),(.b (decide (0<(w1_1:Int)))),(.b (decide (0<(w1_1:Int)))),(I (w1_1:Int)),(.b false),(.b false),.sk,.sk,.sk,.sk,.sk,.sk,.sk,.sk]) fun x7 h=>L h) (fun h6 h=>bG (decide_eq_false h6)<|ai (g1 (decide_eq_false h6))<|ai hf<|ai (decide_eq_false h6)<|ai ff<|aT h (ik a0 a1 w1_1 false [(.b false),.sk,.sk,.sk,(.b (decide (0<(w1_1:Int)))),(.b (decide (0<(w1_1:Int)))),(I (w1_1:Int)),(.b false),(.b false),.sk,.sk,.sk,.sk,.sk,.sk,.sk,.sk]) fun x7 h=>L h))
def lg(w1_1:Nat):Option (Unit⊕(Unit⊕(Unit⊕Unit))):=
 if ((a0.Args.length:Int) !=(w1_1:Int))=true then
  some (.inl ())
 else
  (nN a0 a1 w1_1).bind fun (x5:Bool)=>
  if x5=true then
   some (.inr (.inl ()))
  else
   if (a0.Kind==2)=true then
    if a0.N<0 then
     some (.inr (.inr (.inl ())))
    else
     if a1≤a0.N then
      some (.inr (.inr (.inl ())))
     else
      some (.inr (.inr (.inr ())))
   else
    some (.inr (.inr (.inr ())))
abbrev dS(a0:ak)(a1:Int)(w1_1:Nat)(x:(Unit⊕(Unit⊕(Unit⊕Unit)))):aI×St:=match x with | .inl ()=>(.ret,⟨[(4,(I 1))],[],H0⟩) | .inr (.inl ())=>(.ret,⟨[(4,(I 3))],[],H0⟩) | .inr (.inr (.inl ()))=>(.ret,⟨[(4,(I 5))],[],H0⟩) | .inr (.inr (.inr ()))=>(.ret,⟨[(4,(I 0))],[],H0⟩)
theorem vD(w1_1:Nat)(x:(Unit⊕(Unit⊕(Unit⊕Unit))))(h:lg a0 a1 w1_1=some x):run G Ω0 E0 Mt ⟨[(1,(I a1)),(2,(.p ⟨0,2⟩ 0)),(5,(I (w1_1:Int)))],[(2,(dc a0))],H0⟩=some (dS a0 a1 w1_1 x):=
 Lk (bt<|ao (.i (a0.Args.length:Int))<|oN (.jb (some 24) 22<|.ex fun (x5:Bool)=>ao (.jn (wO a0 a1 w1_1 x5))<|oN (bt<|.or (tJ<|.or (bf<|bf<|bf<|bf<|bt<|bt<|bt<|bt<|.nil) (bt<|bt<|bt<|bt<|bt<|bt<|bf<|bt<|oN (.nil))) (Pj<|.nil)))) fun L=>ai (rfl:Z0)<|ai (aG az a0.Args)<|bE h (fun h4 h=>ai h4<|L h) (fun h4 h=>ai h4<|aT h (B7 a0 a1 w1_1) fun x5 h=>bE h (fun h7 h=>ai h7<|L h) (fun h7 h=>uA h7<|bE h (fun h8 h=>bG h8<|ai (rfl:Z0)<|bG h8<|bZ h (fun h9 h=>cP (decide_eq_true h9)<|cP (decide_eq_true h9)<|ai (g1 h8)<|ai (decide_eq_true h9)<|ai h8<|ai tt<|L h) (fun h9 h=>cP (decide_eq_false h9)<|ai (rfl:Z0)<|cP (decide_eq_false h9)<|ai (g1 h8)<|ai (decide_eq_false h9)<|ai h8<|bZ h (fun h10 h=>ai (decide_eq_true h10)<|L h) (fun h10 h=>ai (decide_eq_false h10)<|L h))) (fun h8 h=>bG h8<|bG h8<|sj h8<|ai ff<|L h)))
abbrev Hs(a0:ak)(a1:Int)(r:Int):aQ×HP:=(.ret (I r),H0)
def rV:Option Int:=
 if a0.Kind<1 then
  some 7
 else
  if 7<a0.Kind then
   some 7
  else
   if 2<a0.Kind then
    (lg a0 a1 2).bind fun (x4:(Unit⊕(Unit⊕(Unit⊕Unit))))=>match x4 with
    | .inl ya_5=>
     some 1
    | .inr (.inl yb_5)=>
     some 3
    | .inr (.inr (.inl yc_5))=>
     some 5
    | .inr (.inr (.inr yd_5))=>
     some 0
   else
    (lg a0 a1 0).bind fun (x4:(Unit⊕(Unit⊕(Unit⊕Unit))))=>match x4 with
    | .inl ya_5=>
     some 1
    | .inr (.inl yb_5)=>
     some 3
    | .inr (.inr (.inl yc_5))=>
     some 5
    | .inr (.inr (.inr yd_5))=>
     some 0
theorem Dp(r:Int)(h:rV a0 a1=some r):call G Ω0 E0 145 [(.a (dc a0)),(I a1)] H0=some (Hs a0 a1 r):=
 aJ ab0 (bt<|.or (bf<|bf<|bf<|bt<|bt<|.nil) (Ph<|oN (bt<|.or (bt<|.fb<|.or (.ex fun (ya_5:Unit)=>ao (.uz (dS a0 a1 2 (.inl ya_5)))<|.nil) (.or (.ex fun (yb_5:Unit)=>ao (.uz (dS a0 a1 2 (.inr (.inl yb_5))))<|.nil) (.or (.ex fun (yc_5:Unit)=>ao (.uz (dS a0 a1 2 (.inr (.inr (.inl yc_5)))))<|.nil) (.ex fun (yd_5:Unit)=>ao (.uz (dS a0 a1 2 (.inr (.inr (.inr yd_5)))))<|.nil)))) (bf<|.fb<|.or (.ex fun (ya_5:Unit)=>ao (.uz (dS a0 a1 0 (.inl ya_5)))<|.nil) (.or (.ex fun (yb_5:Unit)=>ao (.uz (dS a0 a1 0 (.inr (.inl yb_5))))<|.nil) (.or (.ex fun (yc_5:Unit)=>ao (.uz (dS a0 a1 0 (.inr (.inr (.inl yc_5)))))<|.nil) (.ex fun (yd_5:Unit)=>ao (.uz (dS a0 a1 0 (.inr (.inr (.inr yd_5)))))<|.nil))))))) fun L=>dO<|bZ h (fun h1 h=>cP (decide_eq_true h1)<|pL (decide_eq_true h1)<|ai tt<|L h) (fun h1 h=>cP (decide_eq_false h1)<|ai (rfl:Z0)<|pL (decide_eq_false h1)<|bZ h (fun h2 h=>ai (decide_eq_true h2)<|L h) (fun h2 h=>uA (decide_eq_false h2)<|bZ h (fun h3 h=>ai (decide_eq_true h3)<|QJ h (vD a0 a1 2) (fun ya_5 h=>L h) (fun yb_5 h=>L h) (fun yc_5 h=>L h) (fun yd_5 h=>L h)) (fun h3 h=>ai (decide_eq_false h3)<|QJ h (vD a0 a1 0) (fun ya_5 h=>L h) (fun yb_5 h=>L h) (fun yc_5 h=>L h) (fun yd_5 h=>L h))))
abbrev F8(a0:ak)(a1:Int)(r:Int):aQ×HP:=(.ret (I r),H0)
abbrev uf(r:Int):Prop:=call G Ω0 E0 112 [(.a (dc a0)),(I a1)] H0=some (F8 a0 a1 r)
end
structure ug where
 f_scope_parts:ak→Int→Option Int
structure sK(R:ug):Prop where
 f_scope_parts:∀ (a0:ak)(a1:Int)(r:Int),R.f_scope_parts a0 a1=some r→uf a0 a1 r
section
variable (R:ug)(a0:ak)(a1:Int)
def nO(v0_18:Nat):Option (Nat⊕(Int⊕(Nat×Bool))):=
 if (v0_18:Int)<(a0.Args.length:Int) then
  (a0.Args[v0_18]?).bind fun (y5:ak)=>
  (R.f_scope_parts y5 a1).bind fun (r7:Int)=>
  if (r7 !=0)=true then
   some (.inr (.inl r7))
  else
   if IntKind.i64.wrap ((v0_18:Int)+1)=((v0_18+1:Nat):Int) then
    some (.inl (v0_18+1))
   else none
 else
  some (.inr (.inr (v0_18,decide ((v0_18:Int)<(a0.Args.length:Int)))))
abbrev Dq(v:Nat):St:=⟨[(1,(I a1)),(16,(.l 37 (a0.Args.map az))),(17,(I (a0.Args.length:Int))),(18,(I (v:Int)))],[],H0⟩
abbrev rW(x:(Int⊕(Nat×Bool))):aI×St:=match x with | .inl z1=>(.ret,⟨[(4,(I z1))],[],H0⟩) | .inr (z1,z2)=>((.ex 0),⟨[(1,(I a1)),(16,(.l 37 (a0.Args.map az))),(17,(I (a0.Args.length:Int))),(18,(I (z1:Int))),(19,(.b z2))],[],H0⟩)
theorem B8(hR:sK R)(a0:ak)(a1:Int)(v0_18:Nat)(o:Nat⊕(Int⊕(Nat×Bool)))(h:nO R a0 a1 v0_18=some o):bB E0 Mh (Dq a0 a1) (rW a0 a1) v0_18 o:=
 bL (.or (bt<|ao (.n v0_18)<|.ex fun (y5:ak)=>ao (.v (.a (dc y5)))<|ew<|xI fun r7=>oN (ao (.i ((v0_18+1:Nat):Int))<|.nil)) (bf<|.nil)) fun L=>bZ h (fun h4 h=>ai (decide_eq_true h4)<|ai (rI v0_18)<|bO h fun y5 h6 h=>ai (og az h6 (dt _))<|ML<|aT h (hR.f_scope_parts y5 a1) fun r7 h=>bE h (fun h9 h=>ai h9<|L h) (fun h9 h=>ai h9<|aR h fun w10 h=>ai w10<|L h)) (fun h4 h=>ai (decide_eq_false h4)<|L h)
def po:Option Int:=
 (rV a0 a1).bind fun (r1:Int)=>
 if (r1 !=0)=true then
  some r1
 else
  (lp (fun v=>nO R a0 a1 v) 0).bind fun (x4:(Int⊕(Nat×Bool)))=>match x4 with
  | .inl ya_5=>
   some ya_5
  | .inr yb_5=>
   some 0
theorem BD(hR:sK R)(a0:ak)(a1:Int)(r:Int)(h:po R a0 a1=some r):uf a0 a1 r:=
 aJ abI (bt<|xI fun r1=>oN (bt<|ao (.i (a0.Args.length:Int))<|.or (.ex fun (ya_5:Int)=>ao (.cu (rW a0 a1 (.inl ya_5)))<|.nil) (.ex fun (yb_5:(Nat×Bool))=>ao (.cu (rW a0 a1 (.inr yb_5)))<|.nil))) fun L=>dO<|aT h (Dp a0 a1) fun r1 h=>bE h (fun h3 h=>ai h3<|L h) (fun h3 h=>uA h3<|ai (aG az a0.Args)<|ec h (gl (B8 R hR a0 a1) 0) (fun ya_5 h=>L h) (fun yb_5 h=>L h))
def kR:Nat→ug
 | 0=>⟨fun z0 z1=>none⟩
 | n+1=>⟨po (kR n)⟩
theorem xK:∀ n,sK (kR n)
 | 0=>⟨fun _ _ r h=>(by cases h)⟩
 | n+1=>⟨fun a0 a1 r h=>BD _ (xK n) a0 a1 r h⟩
def uh:Option Int:=ev fun n=>(kR n).f_scope_parts a0 a1
theorem B9(r:Int)(h:uh a0 a1=some r):uf a0 a1 r:=by
 obtain ⟨n,hn⟩:=vc h
 exact (xK n).f_scope_parts a0 a1 r hn
abbrev Ht(a0:ak)(a1:Int)(r:Int):aQ×HP:=(.ret (I r),H0)
def ka:Option Int:=
 (vC a0 15).bind fun (r1:Int)=>
 if 15<r1 then
  some 2
 else
  (uh a0 a1).bind fun (r4:Int)=>
  some r4
theorem rX(r:Int)(h:ka a0 a1=some r):call G Ω0 E0 45 [(.a (dc a0)),(I a1)] H0=some (Ht a0 a1 r):=
 aJ G45 (bt<|xI fun r1=>oN (bt<|xI fun r4=>.nil)) fun L=>dO<|aT h (Dm a0 15) fun r1 h=>bZ h (fun h3 h=>ai (decide_eq_true h3)<|L h) (fun h3 h=>uA (decide_eq_false h3)<|aT h (B9 a0 a1) fun r4 h=>L h)
def pM:List dL:=(gA 10 47)::[]
end
section
variable (c0:Checker)(a0:Stmt)(dp:Nat)(hp:HP)(k0:Key)
def eI(c0:Checker)(a0:Stmt)(r3:(Bool×Bool×Bool))(u2_1:Bool):Option Bool:=
 some u2_1
abbrev gx(c0:Checker)(a0:Stmt)(r3:(Bool×Bool×Bool))(u2_1:Bool)(x:Bool):St:=⟨[(0,(.p k0 0)),(3,(.p ⟨dp,3⟩ 0)),(5,(I a0.Kind)),(6,(.b r3.1)),(7,(.b r3.2.1)),(8,(.b r3.2.2)),(9,(.b (decide (7≤a0.Kind)))),(10,(.b x))],[(3,(aw a0))],ab hp k0 (an c0)⟩
theorem kg(hk_k0:k0.dp<dp)(hz:ax dp hp)(c0:Checker)(a0:Stmt)(r3:(Bool×Bool×Bool))(u2_1:Bool)(w:List AV)(x:Bool)(h:eI c0 a0 r3 u2_1=some x):nv G Ω0 ⟨dp,true⟩ [0,3,5,6,7,8,9,10] [0,3] pM ⟨[(47,(.b u2_1)),(46,(W w 0)),(45,(W w 1)),(44,(W w 2)),(43,(W w 3)),(42,(W w 4)),(41,(W w 5)),(40,(W w 6)),(39,(W w 7)),(38,(W w 8)),(37,(W w 9)),(36,(W w 10)),(35,(.b (a0.Expr.Kind==0))),(34,(.b (a0.Expr.Kind==0))),(33,(I a0.Expr.Kind)),(32,(.p ⟨dp,3⟩ 3)),(31,(.p ⟨dp,3⟩ 3)),(0,(.p k0 0)),(3,(.p ⟨dp,3⟩ 0)),(5,(I a0.Kind)),(6,(.b r3.1)),(7,(.b r3.2.1)),(8,(.b r3.2.2)),(9,(.b (decide (7≤a0.Kind))))],[(3,(aw a0))],ab hp k0 (an c0)⟩=some (gx dp hp k0 c0 a0 r3 u2_1 x):=
 m7 (.nil) fun L=>L h
def wu:List dL:=(gF 31 3 3)::(gF 32 0 31)::(gQ 33 32)::(gB 34 .eql 33 (kI 0))::(gM 35 34)::⟨some 36,.fa 3 3,some ⟨35,true⟩,false⟩::⟨some 37,.fa 1 36,some ⟨35,true⟩,false⟩::⟨some 38,.ld none 37,some ⟨35,true⟩,false⟩::⟨some 39,.bo .eql false 38 (kI 0),some ⟨35,true⟩,false⟩::(gp 40 (.pk 35 39 (.c (.b false))))::(gM 41 40)::⟨some 42,.fa 3 3,some ⟨41,true⟩,false⟩::⟨some 43,.fa 2 42,some ⟨41,true⟩,false⟩::⟨some 44,.ld none 43,some ⟨41,true⟩,false⟩::⟨some 45,.ln false 44,some ⟨41,true⟩,false⟩::⟨some 46,.bo .eql false 45 (kI 0),some ⟨41,true⟩,false⟩::(gp 47 (.pk 41 46 (.c (.b false))))::pM
def gy(r3:(Bool×Bool×Bool)):Option Bool:=
 if (a0.Expr.Kind==0)=true then
  if (a0.Expr.N==0)=true then
   (eI c0 a0 r3 ((a0.Expr.Args.length:Int)==0)).bind fun (x7:Bool)=>
   some x7
  else
   (eI c0 a0 r3 false).bind fun (x7:Bool)=>
   some x7
 else
  (eI c0 a0 r3 false).bind fun (x6:Bool)=>
  some x6
abbrev pN(c0:Checker)(a0:Stmt)(r3:(Bool×Bool×Bool))(x:Bool):St:=⟨[(0,(.p k0 0)),(3,(.p ⟨dp,3⟩ 0)),(5,(I a0.Kind)),(6,(.b r3.1)),(7,(.b r3.2.1)),(8,(.b r3.2.2)),(9,(.b (decide (7≤a0.Kind)))),(10,(.b x))],[(3,(aw a0))],ab hp k0 (an c0)⟩
theorem vE(hk_k0:k0.dp<dp)(hz:ax dp hp)(c0:Checker)(a0:Stmt)(r3:(Bool×Bool×Bool))(x:Bool)(h:gy c0 a0 r3=some x):nv G Ω0 ⟨dp,true⟩ [0,3,5,6,7,8,9,10] [0,3] wu ⟨[(0,(.p k0 0)),(3,(.p ⟨dp,3⟩ 0)),(5,(I a0.Kind)),(6,(.b r3.1)),(7,(.b r3.2.1)),(8,(.b r3.2.2)),(9,(.b (decide (7≤a0.Kind))))],[(3,(aw a0))],ab hp k0 (an c0)⟩=some (pN dp hp k0 c0 a0 r3 x):=
 m7 (bt<|.or (MN<|.or (tJ<|ao (.i (a0.Expr.Args.length:Int))<|gT<|.jb (some 10) 0<|.ex fun (x7:Bool)=>ao (.jn (gx dp hp k0 c0 a0 r3 ((a0.Expr.Args.length:Int)==0) x7))<|.nil) (MP<|.jb (some 10) 0<|.ex fun (x7:Bool)=>ao (.jn (gx dp hp k0 c0 a0 r3 false x7))<|.nil)) (U3<|.jb (some 10) 0<|.ex fun (x6:Bool)=>ao (.jn (gx dp hp k0 c0 a0 r3 false x6))<|.nil)) fun L=>ai (rN dp)<|bE h (fun h5 h=>JW h5<|ai (rN dp)<|sj h5<|bE h (fun h6 h=>JW h6<|ai (rN dp)<|ai (g1 h6)<|ai (aG az a0.Expr.Args)<|sj h6<|aT h (kg dp hp k0 hk_k0 hz c0 a0 r3 ((a0.Expr.Args.length:Int)==0) [(.b ((a0.Expr.Args.length:Int)==0)),(I (a0.Expr.Args.length:Int)),(.l 37 (a0.Expr.Args.map az)),(.p ⟨dp,3⟩ 5),(.p ⟨dp,3⟩ 3),(.b (a0.Expr.N==0)),(.b (a0.Expr.N==0)),(.b (a0.Expr.N==0)),(I a0.Expr.N),(.p ⟨dp,3⟩ 4),(.p ⟨dp,3⟩ 3)]) fun x7 h=>L h) (fun h6 h=>Pg h6<|aT h (kg dp hp k0 hk_k0 hz c0 a0 r3 false [.sk,.sk,.sk,.sk,.sk,(.b (a0.Expr.N==0)),(.b (a0.Expr.N==0)),(.b (a0.Expr.N==0)),(I a0.Expr.N),(.p ⟨dp,3⟩ 4),(.p ⟨dp,3⟩ 3)]) fun x7 h=>L h)) (fun h5 h=>bG h5<|bG h5<|ai h5<|ai gf<|ai gf<|ai gf<|ai gf<|ai gf<|ai ff<|aT h (kg dp hp k0 hk_k0 hz c0 a0 r3 false [.sk,.sk,.sk,.sk,.sk,(.b false),(.b false),.sk,.sk,.sk,.sk]) fun x6 h=>L h)
def pO:List bw:=gH (gA 48 81)::[]
def dv(c0:Checker)(a0:Stmt)(r3:(Bool×Bool×Bool))(x5:Bool)(u4_1:Bool)(u5_1:Bool):Option Bool:=
 some u5_1
abbrev eJ(c0:Checker)(a0:Stmt)(r3:(Bool×Bool×Bool))(x5:Bool)(u4_1:Bool)(u5_1:Bool)(x:Bool):St:=⟨[(0,(.p k0 0)),(3,(.p ⟨dp,3⟩ 0)),(5,(I a0.Kind)),(6,(.b r3.1)),(7,(.b r3.2.1)),(8,(.b r3.2.2)),(9,(.b (decide (7≤a0.Kind)))),(10,(.b x5)),(48,(.b x))],[(3,(aw a0))],ab hp k0 (an c0)⟩
theorem fT(hk_k0:k0.dp<dp)(hz:ax dp hp)(c0:Checker)(a0:Stmt)(r3:(Bool×Bool×Bool))(x5:Bool)(u4_1:Bool)(u5_1:Bool)(w:List AV)(x:Bool)(h:dv c0 a0 r3 x5 u4_1 u5_1=some x):yD G Ω0 ⟨dp,true⟩ [0,3,5,6,7,8,9,10,48] [0,3] pO ⟨[(81,(.b u5_1)),(80,(W w 0)),(79,(W w 1)),(78,(W w 2)),(77,(W w 3)),(76,(W w 4)),(75,(W w 5)),(74,(W w 6)),(73,(W w 7)),(72,(W w 8)),(71,(W w 9)),(70,(W w 10)),(69,(W w 11)),(68,(W w 12)),(67,(W w 13)),(66,(.b u4_1)),(65,(.b u4_1)),(64,(W w 14)),(63,(W w 15)),(62,(W w 16)),(61,(W w 17)),(60,(W w 18)),(59,(W w 19)),(58,(W w 20)),(57,(W w 21)),(56,(W w 22)),(55,(W w 23)),(54,(W w 24)),(53,(W w 25)),(52,(W w 26)),(51,(W w 27)),(50,(.b r3.1)),(49,(.b r3.1)),(0,(.p k0 0)),(3,(.p ⟨dp,3⟩ 0)),(5,(I a0.Kind)),(6,(.b r3.1)),(7,(.b r3.2.1)),(8,(.b r3.2.2)),(9,(.b (decide (7≤a0.Kind)))),(10,(.b x5))],[(3,(aw a0))],ab hp k0 (an c0)⟩=some (eJ dp hp k0 c0 a0 r3 x5 u4_1 u5_1 x):=
 Hj (.nil) fun L=>L h
def pP:List bw:=gL (gM 66 65) [65] []::⟨⟨some 67,.mv 7,some ⟨66,false⟩,false⟩,true,[7],[],false,[],[],[]⟩::⟨⟨some 68,.mv 67,some ⟨66,false⟩,false⟩,true,[67],[],false,[],[],[]⟩::⟨⟨some 69,.fa 2 3,some ⟨68,true⟩,false⟩,true,[3],[],false,[],[],[]⟩::⟨⟨some 70,.ld none 69,some ⟨68,true⟩,false⟩,true,[69],[3],false,[],[],[]⟩::⟨⟨some 71,.bo .lss false 70 (kI 0),some ⟨68,true⟩,false⟩,true,[70],[],false,[],[],[]⟩::⟨⟨some 72,.mv 71,some ⟨68,true⟩,false⟩,true,[71],[],false,[],[],[]⟩::⟨⟨some 73,.fa 2 3,some ⟨72,false⟩,false⟩,true,[3],[],false,[],[],[]⟩::⟨⟨some 74,.ld none 73,some ⟨72,false⟩,false⟩,true,[73],[3],false,[],[],[]⟩::⟨⟨some 75,.mv 0,some ⟨72,false⟩,false⟩,true,[0],[],false,[],[],[]⟩::⟨⟨some 76,.mv 5,some ⟨72,false⟩,false⟩,true,[5],[],false,[],[],[]⟩::⟨⟨some 77,.c3 159 [75,76],some ⟨72,false⟩,false⟩,true,[75,76],[],true,[],[],[]⟩::⟨⟨some 78,.bo .geq false 74 77,some ⟨72,false⟩,false⟩,false,[],[],false,[],[],[]⟩::⟨⟨some 79,.pk 72 (.c (.b true)) 78,some ⟨68,true⟩,false⟩,false,[],[],false,[],[],[]⟩::⟨⟨some 80,.pk 68 79 (.c (.b false)),some ⟨66,false⟩,false⟩,false,[],[],false,[],[],[]⟩::gH (gp 81 (.pk 66 (.c (.b true)) 80))::pO
def dw(r3:(Bool×Bool×Bool))(x5:Bool)(u4_1:Bool):Option Bool:=
 if u4_1=true then
  (dv c0 a0 r3 x5 u4_1 true).bind fun (x10:Bool)=>
  some x10
 else
  if r3.2.1=true then
   if a0.Other<0 then
    (dv c0 a0 r3 x5 u4_1 true).bind fun (x12:Bool)=>
    some x12
   else
    (iv c0 a0.Kind).bind fun (r12:Int)=>
    (dv c0 a0 r3 x5 u4_1 (decide (r12≤a0.Other))).bind fun (x14:Bool)=>
    some x14
  else
   (dv c0 a0 r3 x5 u4_1 false).bind fun (x11:Bool)=>
   some x11
abbrev gC(c0:Checker)(a0:Stmt)(r3:(Bool×Bool×Bool))(x5:Bool)(u4_1:Bool)(x:Bool):St:=⟨[(0,(.p k0 0)),(3,(.p ⟨dp,3⟩ 0)),(5,(I a0.Kind)),(6,(.b r3.1)),(7,(.b r3.2.1)),(8,(.b r3.2.2)),(9,(.b (decide (7≤a0.Kind)))),(10,(.b x5)),(48,(.b x))],[(3,(aw a0))],ab hp k0 (an c0)⟩
theorem kh(hk_k0:k0.dp<dp)(hz:ax dp hp)(c0:Checker)(a0:Stmt)(r3:(Bool×Bool×Bool))(x5:Bool)(u4_1:Bool)(w:List AV)(x:Bool)(h:dw c0 a0 r3 x5 u4_1=some x):yD G Ω0 ⟨dp,true⟩ [0,3,5,6,7,8,9,10,48] [0,3] pP ⟨[(65,(.b u4_1)),(64,(W w 0)),(63,(W w 1)),(62,(W w 2)),(61,(W w 3)),(60,(W w 4)),(59,(W w 5)),(58,(W w 6)),(57,(W w 7)),(56,(W w 8)),(55,(W w 9)),(54,(W w 10)),(53,(W w 11)),(52,(W w 12)),(51,(W w 13)),(50,(.b r3.1)),(49,(.b r3.1)),(0,(.p k0 0)),(3,(.p ⟨dp,3⟩ 0)),(5,(I a0.Kind)),(6,(.b r3.1)),(7,(.b r3.2.1)),(8,(.b r3.2.2)),(9,(.b (decide (7≤a0.Kind)))),(10,(.b x5))],[(3,(aw a0))],ab hp k0 (an c0)⟩=some (gC dp hp k0 c0 a0 r3 x5 u4_1 x):=
 Hj (.or (bf<|bf<|bf<|bt<|.jb (some 48) 0<|.ex fun (x10:Bool)=>ao (.jn (eJ dp hp k0 c0 a0 r3 x5 u4_1 true x10))<|.nil) (gT<|.or (tJ<|.or (bf<|bf<|bf<|bf<|bf<|bf<|bt<|bt<|bt<|bt<|bf<|.jb (some 48) 0<|.ex fun (x12:Bool)=>ao (.jn (eJ dp hp k0 c0 a0 r3 x5 u4_1 true x12))<|.nil) (MN<|xI fun r12=>ao (.h (boxes dp [] (ab hp k0 (an c0))))<|bt<|bt<|bf<|bt<|bt<|bf<|.jb (some 48) 0<|.ex fun (x14:Bool)=>ao (.jn (eJ dp hp k0 c0 a0 r3 x5 u4_1 (decide (r12≤a0.Other)) x14))<|.nil)) (bf<|bf<|bf<|bf<|bf<|bt<|bf<|bf<|.jb (some 48) 0<|.ex fun (x11:Bool)=>ao (.jn (eJ dp hp k0 c0 a0 r3 x5 u4_1 false x11))<|.nil))) fun L=>ai tt<|bE h (fun h9 h=>cP h9<|pL h9<|aT h (fT dp hp k0 hk_k0 hz c0 a0 r3 x5 u4_1 true [.sk,.sk,.sk,.sk,.sk,.sk,.sk,.sk,.sk,.sk,.sk,.sk,.sk,.sk,(W w 0),(W w 1),(W w 2),(W w 3),(W w 4),(W w 5),(W w 6),(W w 7),(W w 8),(W w 9),(W w 10),(W w 11),(W w 12),(W w 13)]) fun x10 h=>L h) (fun h9 h=>ai (g0 h9)<|rS h9<|ai tt<|bE h (fun h10 h=>vt h10<|ai (rN dp)<|ai tt<|vt h10<|ai tt<|bZ h (fun h11 h=>cP (decide_eq_true h11)<|cP (decide_eq_true h11)<|cP (decide_eq_true h11)<|ai (g1 h10)<|ai (decide_eq_true h11)<|ai (g0 h9)<|ai h10<|ai h9<|aT h (fT dp hp k0 hk_k0 hz c0 a0 r3 x5 u4_1 true [(.b true),(.b true),.sk,.sk,.sk,.sk,.sk,.sk,(.b (decide (a0.Other<0))),(.b (decide (a0.Other<0))),(I a0.Other),(.p ⟨dp,3⟩ 2),(.b r3.2.1),(.b r3.2.1),(W w 0),(W w 1),(W w 2),(W w 3),(W w 4),(W w 5),(W w 6),(W w 7),(W w 8),(W w 9),(W w 10),(W w 11),(W w 12),(W w 13)]) fun x12 h=>L h) (fun h11 h=>ai (g0 (decide_eq_false h11))<|rS (decide_eq_false h11)<|ai (rN dp)<|rS (decide_eq_false h11)<|rS (decide_eq_false h11)<|rS (decide_eq_false h11)<|ai tt<|bO h fun r12 ek13 h=>have ek13:=cO hk_k0 (uM (dp+1) (boxes dp [] (ab hp k0 (an c0))) k0 (Nat.lt_succ_of_lt hk_k0) (bX (aF hk_k0 (hz))) c0 a0.Kind _ ek13);ai ek13<|rS (decide_eq_false h11)<|ai (g1 h10)<|ai (decide_eq_false h11)<|ai (g0 h9)<|ai h10<|ai h9<|aT h (fT dp hp k0 hk_k0 hz c0 a0 r3 x5 u4_1 (decide (r12≤a0.Other)) [(.b (decide (r12≤a0.Other))),(.b (decide (r12≤a0.Other))),(.b (decide (r12≤a0.Other))),(I r12),(I a0.Kind),(.p k0 0),(I a0.Other),(.p ⟨dp,3⟩ 2),(.b (decide (a0.Other<0))),(.b (decide (a0.Other<0))),(I a0.Other),(.p ⟨dp,3⟩ 2),(.b r3.2.1),(.b r3.2.1),(W w 0),(W w 1),(W w 2),(W w 3),(W w 4),(W w 5),(W w 6),(W w 7),(W w 8),(W w 9),(W w 10),(W w 11),(W w 12),(W w 13)]) fun x14 h=>L h)) (fun h10 h=>bG h10<|bG h10<|ai (g1 h10)<|ai (g0 h9)<|ai h10<|ai h9<|aT h (fT dp hp k0 hk_k0 hz c0 a0 r3 x5 u4_1 false [(.b false),.sk,.sk,.sk,.sk,.sk,.sk,.sk,.sk,.sk,.sk,.sk,(.b r3.2.1),(.b r3.2.1),(W w 0),(W w 1),(W w 2),(W w 3),(W w 4),(W w 5),(W w 6),(W w 7),(W w 8),(W w 9),(W w 10),(W w 11),(W w 12),(W w 13)]) fun x11 h=>L h))
def wv:List bw:=gL (gM 49 6) [6] []::gL (gM 50 49) [49] []::⟨⟨some 51,.fa 1 3,some ⟨50,true⟩,false⟩,true,[3],[],false,[],[],[]⟩::⟨⟨some 52,.ld none 51,some ⟨50,true⟩,false⟩,true,[51],[3],false,[],[],[]⟩::⟨⟨some 53,.bo .lss false 52 (kI 0),some ⟨50,true⟩,false⟩,true,[52],[],false,[],[],[]⟩::⟨⟨some 54,.mv 53,some ⟨50,true⟩,false⟩,true,[53],[],false,[],[],[]⟩::⟨⟨some 55,.fa 1 3,some ⟨54,false⟩,false⟩,true,[3],[],false,[],[],[]⟩::⟨⟨some 56,.ld none 55,some ⟨54,false⟩,false⟩,true,[55],[3],false,[],[],[]⟩::⟨⟨some 57,.mv 0,some ⟨54,false⟩,false⟩,true,[0],[],false,[],[],[]⟩::⟨⟨some 58,.nc 57,some ⟨54,false⟩,false⟩,true,[57],[],false,[],[],[]⟩::⟨⟨some 59,.fa 0 58,some ⟨54,false⟩,false⟩,true,[58],[],false,[],[],[]⟩::⟨⟨some 60,.fa 5 59,some ⟨54,false⟩,false⟩,true,[59],[],false,[],[],[]⟩::⟨⟨some 61,.ld none 60,some ⟨54,false⟩,false⟩,true,[60],[],true,[],[],[]⟩::⟨⟨some 62,.ln false 61,some ⟨54,false⟩,false⟩,true,[61],[],true,[],[],[]⟩::⟨⟨some 63,.bo .geq false 56 62,some ⟨54,false⟩,false⟩,true,[56,62],[],false,[],[],[]⟩::⟨⟨some 64,.pk 54 (.c (.b true)) 63,some ⟨50,true⟩,false⟩,true,[54,63],[],false,[],[],[]⟩::gL (gp 65 (.pk 50 64 (.c (.b false)))) [50,64] []::pP
def gD(r3:(Bool×Bool×Bool))(x5:Bool):Option Bool:=
 if r3.1=true then
  if a0.Var<0 then
   (dw c0 a0 r3 x5 true).bind fun (x9:Bool)=>
   some x9
  else
   (dw c0 a0 r3 x5 (decide ((c0.p.Vars.length:Int)≤a0.Var))).bind fun (x9:Bool)=>
   some x9
 else
  (dw c0 a0 r3 x5 false).bind fun (x8:Bool)=>
  some x8
abbrev pQ(c0:Checker)(a0:Stmt)(r3:(Bool×Bool×Bool))(x5:Bool)(x:Bool):St:=⟨[(0,(.p k0 0)),(3,(.p ⟨dp,3⟩ 0)),(5,(I a0.Kind)),(6,(.b r3.1)),(7,(.b r3.2.1)),(8,(.b r3.2.2)),(9,(.b (decide (7≤a0.Kind)))),(10,(.b x5)),(48,(.b x))],[(3,(aw a0))],ab hp k0 (an c0)⟩
theorem vF(hk_k0:k0.dp<dp)(hz:ax dp hp)(c0:Checker)(a0:Stmt)(r3:(Bool×Bool×Bool))(x5:Bool)(x:Bool)(h:gD c0 a0 r3 x5=some x):yD G Ω0 ⟨dp,true⟩ [0,3,5,6,7,8,9,10,48] [0,3] wv ⟨[(0,(.p k0 0)),(3,(.p ⟨dp,3⟩ 0)),(5,(I a0.Kind)),(6,(.b r3.1)),(7,(.b r3.2.1)),(8,(.b r3.2.2)),(9,(.b (decide (7≤a0.Kind)))),(10,(.b x5))],[(3,(aw a0))],ab hp k0 (an c0)⟩=some (pQ dp hp k0 c0 a0 r3 x5 x):=
 Hj (.or (tJ<|.or (bf<|bf<|bf<|bf<|bf<|bf<|bf<|bf<|bf<|bt<|bt<|bt<|.jb (some 66) 16<|.ex fun (x9:Bool)=>ao (.jn (gC dp hp k0 c0 a0 r3 x5 true x9))<|.nil) (bt<|bt<|bt<|bt<|bt<|bt<|bt<|bt<|bf<|ao (.l (an c0))<|bt<|ao (.i (c0.p.Vars.length:Int))<|bt<|bt<|bf<|bt<|.jb (some 66) 16<|.ex fun (x9:Bool)=>ao (.jn (gC dp hp k0 c0 a0 r3 x5 (decide ((c0.p.Vars.length:Int)≤a0.Var)) x9))<|.nil)) (MP<|.jb (some 66) 16<|.ex fun (x8:Bool)=>ao (.jn (gC dp hp k0 c0 a0 r3 x5 false x8))<|.nil)) fun L=>bJ<|bE h (fun h7 h=>vt h7<|ai (rN dp)<|ai tt<|vt h7<|ai tt<|bZ h (fun h8 h=>cP (decide_eq_true h8)<|cP (decide_eq_true h8)<|cP (decide_eq_true h8)<|cP (decide_eq_true h8)<|ai (g0 (decide_eq_true h8))<|ai (g1 h7)<|ai (decide_eq_true h8)<|ai tt<|ai h7<|ai tt<|aT h (kh dp hp k0 hk_k0 hz c0 a0 r3 x5 true [(.b true),.sk,.sk,.sk,.sk,.sk,.sk,.sk,.sk,.sk,(.b (decide (a0.Var<0))),(.b (decide (a0.Var<0))),(I a0.Var),(.p ⟨dp,3⟩ 1)]) fun x9 h=>L h) (fun h8 h=>ai (g0 (decide_eq_false h8))<|rS (decide_eq_false h8)<|ai (rN dp)<|rS (decide_eq_false h8)<|rS (decide_eq_false h8)<|rS (decide_eq_false h8)<|rS (decide_eq_false h8)<|rS (decide_eq_false h8)<|ai (Nat.ne_of_lt hk_k0)<|ai (cD hp k0 (an c0))<|rS (decide_eq_false h8)<|ai (aG aW c0.p.Vars)<|rS (decide_eq_false h8)<|ai tt<|ai (g1 h7)<|ai (decide_eq_false h8)<|ai tt<|ai h7<|ai tt<|aT h (kh dp hp k0 hk_k0 hz c0 a0 r3 x5 (decide ((c0.p.Vars.length:Int)≤a0.Var)) [(.b (decide ((c0.p.Vars.length:Int)≤a0.Var))),(.b (decide ((c0.p.Vars.length:Int)≤a0.Var))),(I (c0.p.Vars.length:Int)),(.l 83 (c0.p.Vars.map aW)),(.p k0 5),(.p k0 0),(.p k0 0),(.p k0 0),(I a0.Var),(.p ⟨dp,3⟩ 1),(.b (decide (a0.Var<0))),(.b (decide (a0.Var<0))),(I a0.Var),(.p ⟨dp,3⟩ 1)]) fun x9 h=>L h)) (fun h7 h=>bG h7<|bG h7<|sj h7<|ai tt<|aT h (kh dp hp k0 hk_k0 hz c0 a0 r3 x5 false [.sk,.sk,.sk,.sk,.sk,.sk,.sk,.sk,.sk,.sk,.sk,.sk,.sk,.sk]) fun x8 h=>L h)
def ov:List dL:=(gA 82 136)::[]
def ej(c0:Checker)(a0:Stmt)(r3:(Bool×Bool×Bool))(x5:Bool)(x7:Bool)(u7_1:Bool)(u8_1:Bool)(u9_1:Bool)(u10_1:Bool)(u11_1:Bool):Option Bool:=
 some u11_1
abbrev fU(c0:Checker)(a0:Stmt)(r3:(Bool×Bool×Bool))(x5:Bool)(x7:Bool)(u7_1:Bool)(u8_1:Bool)(u9_1:Bool)(u10_1:Bool)(u11_1:Bool)(x:Bool):St:=⟨[(0,(.p k0 0)),(3,(.p ⟨dp,3⟩ 0)),(5,(I a0.Kind)),(8,(.b r3.2.2)),(82,(.b x))],[(3,(aw a0))],ab hp k0 (an c0)⟩
theorem jy(hk_k0:k0.dp<dp)(hz:ax dp hp)(c0:Checker)(a0:Stmt)(r3:(Bool×Bool×Bool))(x5:Bool)(x7:Bool)(u7_1:Bool)(u8_1:Bool)(u9_1:Bool)(u10_1:Bool)(u11_1:Bool)(w:List AV)(x:Bool)(h:ej c0 a0 r3 x5 x7 u7_1 u8_1 u9_1 u10_1 u11_1=some x):nv G Ω0 ⟨dp,true⟩ [0,3,5,8,82] [0,3] ov ⟨[(136,(.b u11_1)),(135,(W w 0)),(134,(W w 1)),(133,(W w 2)),(132,(W w 3)),(131,(W w 4)),(130,(W w 5)),(129,(W w 6)),(128,(W w 7)),(127,(.b u10_1)),(126,(.b u10_1)),(125,(W w 8)),(124,(W w 9)),(123,(W w 10)),(122,(W w 11)),(121,(W w 12)),(120,(W w 13)),(119,(W w 14)),(118,(W w 15)),(117,(.b u9_1)),(116,(.b u9_1)),(115,(W w 16)),(114,(W w 17)),(113,(W w 18)),(112,(W w 19)),(111,(W w 20)),(110,(W w 21)),(109,(W w 22)),(108,(W w 23)),(107,(.b u8_1)),(106,(.b u8_1)),(105,(W w 24)),(104,(W w 25)),(103,(W w 26)),(102,(W w 27)),(101,(W w 28)),(100,(W w 29)),(99,(.b u7_1)),(98,(.b u7_1)),(97,(W w 30)),(96,(W w 31)),(95,(W w 32)),(94,(W w 33)),(93,(W w 34)),(92,(W w 35)),(91,(W w 36)),(90,(W w 37)),(89,(W w 38)),(88,(W w 39)),(87,(W w 40)),(86,(W w 41)),(85,(.b (!r3.1))),(84,(.b (!r3.1))),(83,(.b r3.1)),(0,(.p k0 0)),(3,(.p ⟨dp,3⟩ 0)),(5,(I a0.Kind)),(6,(.b r3.1)),(7,(.b r3.2.1)),(8,(.b r3.2.2)),(9,(.b (decide (7≤a0.Kind)))),(10,(.b x5)),(48,(.b x7))],[(3,(aw a0))],ab hp k0 (an c0)⟩=some (fU dp hp k0 c0 a0 r3 x5 x7 u7_1 u8_1 u9_1 u10_1 u11_1 x):=
 m7 (.nil) fun L=>L h
def ox:List dL:=(gM 127 126)::⟨some 128,.mv 5,some ⟨127,false⟩,false⟩::⟨some 129,.bo .neq false 128 (kI 7),some ⟨127,false⟩,false⟩::⟨some 130,.mv 129,some ⟨127,false⟩,false⟩::⟨some 131,.fa 8 3,some ⟨130,true⟩,false⟩::⟨some 132,.ld none 131,some ⟨130,true⟩,false⟩::⟨some 133,.ln false 132,some ⟨130,true⟩,false⟩::⟨some 134,.bo .gtr false 133 (kI 0),some ⟨130,true⟩,false⟩::⟨some 135,.pk 130 134 (.c (.b false)),some ⟨127,false⟩,false⟩::(gp 136 (.pk 127 (.c (.b true)) 135))::ov
def dh(r3:(Bool×Bool×Bool))(x5:Bool)(x7:Bool)(u7_1:Bool)(u8_1:Bool)(u9_1:Bool)(u10_1:Bool):Option Bool:=
 if u10_1=true then
  (ej c0 a0 r3 x5 x7 u7_1 u8_1 u9_1 u10_1 true).bind fun (x20:Bool)=>
  some x20
 else
  if (a0.Kind !=7)=true then
   (ej c0 a0 r3 x5 x7 u7_1 u8_1 u9_1 u10_1 (decide (0<(a0.Else.length:Int)))).bind fun (x21:Bool)=>
   some x21
  else
   (ej c0 a0 r3 x5 x7 u7_1 u8_1 u9_1 u10_1 false).bind fun (x21:Bool)=>
   some x21
abbrev fV(c0:Checker)(a0:Stmt)(r3:(Bool×Bool×Bool))(x5:Bool)(x7:Bool)(u7_1:Bool)(u8_1:Bool)(u9_1:Bool)(u10_1:Bool)(x:Bool):St:=⟨[(0,(.p k0 0)),(3,(.p ⟨dp,3⟩ 0)),(5,(I a0.Kind)),(8,(.b r3.2.2)),(82,(.b x))],[(3,(aw a0))],ab hp k0 (an c0)⟩
theorem jz(hk_k0:k0.dp<dp)(hz:ax dp hp)(c0:Checker)(a0:Stmt)(r3:(Bool×Bool×Bool))(x5:Bool)(x7:Bool)(u7_1:Bool)(u8_1:Bool)(u9_1:Bool)(u10_1:Bool)(w:List AV)(x:Bool)(h:dh c0 a0 r3 x5 x7 u7_1 u8_1 u9_1 u10_1=some x):nv G Ω0 ⟨dp,true⟩ [0,3,5,8,82] [0,3] ox ⟨[(126,(.b u10_1)),(125,(W w 0)),(124,(W w 1)),(123,(W w 2)),(122,(W w 3)),(121,(W w 4)),(120,(W w 5)),(119,(W w 6)),(118,(W w 7)),(117,(.b u9_1)),(116,(.b u9_1)),(115,(W w 8)),(114,(W w 9)),(113,(W w 10)),(112,(W w 11)),(111,(W w 12)),(110,(W w 13)),(109,(W w 14)),(108,(W w 15)),(107,(.b u8_1)),(106,(.b u8_1)),(105,(W w 16)),(104,(W w 17)),(103,(W w 18)),(102,(W w 19)),(101,(W w 20)),(100,(W w 21)),(99,(.b u7_1)),(98,(.b u7_1)),(97,(W w 22)),(96,(W w 23)),(95,(W w 24)),(94,(W w 25)),(93,(W w 26)),(92,(W w 27)),(91,(W w 28)),(90,(W w 29)),(89,(W w 30)),(88,(W w 31)),(87,(W w 32)),(86,(W w 33)),(85,(.b (!r3.1))),(84,(.b (!r3.1))),(83,(.b r3.1)),(0,(.p k0 0)),(3,(.p ⟨dp,3⟩ 0)),(5,(I a0.Kind)),(6,(.b r3.1)),(7,(.b r3.2.1)),(8,(.b r3.2.2)),(9,(.b (decide (7≤a0.Kind)))),(10,(.b x5)),(48,(.b x7))],[(3,(aw a0))],ab hp k0 (an c0)⟩=some (fV dp hp k0 c0 a0 r3 x5 x7 u7_1 u8_1 u9_1 u10_1 x):=
 m7 (.or (Fs<|.jb (some 82) 0<|.ex fun (x20:Bool)=>ao (.jn (fU dp hp k0 c0 a0 r3 x5 x7 u7_1 u8_1 u9_1 u10_1 true x20))<|.nil) (ew<|.or (zu<|ao (.i (a0.Else.length:Int))<|Ln<|.jb (some 82) 0<|.ex fun (x21:Bool)=>ao (.jn (fU dp hp k0 c0 a0 r3 x5 x7 u7_1 u8_1 u9_1 u10_1 (decide (0<(a0.Else.length:Int))) x21))<|.nil) (Pk<|.jb (some 82) 0<|.ex fun (x21:Bool)=>ao (.jn (fU dp hp k0 c0 a0 r3 x5 x7 u7_1 u8_1 u9_1 u10_1 false x21))<|.nil))) fun L=>bE h (fun h19 h=>Fp h19<|aT h (jy dp hp k0 hk_k0 hz c0 a0 r3 x5 x7 u7_1 u8_1 u9_1 u10_1 true [.sk,.sk,.sk,.sk,.sk,.sk,.sk,.sk,(W w 0),(W w 1),(W w 2),(W w 3),(W w 4),(W w 5),(W w 6),(W w 7),(W w 8),(W w 9),(W w 10),(W w 11),(W w 12),(W w 13),(W w 14),(W w 15),(W w 16),(W w 17),(W w 18),(W w 19),(W w 20),(W w 21),(W w 22),(W w 23),(W w 24),(W w 25),(W w 26),(W w 27),(W w 28),(W w 29),(W w 30),(W w 31),(W w 32),(W w 33)]) fun x20 h=>L h) (fun h19 h=>Fq h19<|bE h (fun h20 h=>bG h20<|ai (rN dp)<|ai (g1 h20)<|ai (aG ay a0.Else)<|ai (g1 h20)<|ai (g0 h19)<|ai h20<|ai h19<|aT h (jy dp hp k0 hk_k0 hz c0 a0 r3 x5 x7 u7_1 u8_1 u9_1 u10_1 (decide (0<(a0.Else.length:Int))) [(.b (decide (0<(a0.Else.length:Int)))),(.b (decide (0<(a0.Else.length:Int)))),(I (a0.Else.length:Int)),(.l 92 (a0.Else.map ay)),(.p ⟨dp,3⟩ 8),(.b (a0.Kind !=7)),(.b (a0.Kind !=7)),(I a0.Kind),(W w 0),(W w 1),(W w 2),(W w 3),(W w 4),(W w 5),(W w 6),(W w 7),(W w 8),(W w 9),(W w 10),(W w 11),(W w 12),(W w 13),(W w 14),(W w 15),(W w 16),(W w 17),(W w 18),(W w 19),(W w 20),(W w 21),(W w 22),(W w 23),(W w 24),(W w 25),(W w 26),(W w 27),(W w 28),(W w 29),(W w 30),(W w 31),(W w 32),(W w 33)]) fun x21 h=>L h) (fun h20 h=>bG h20<|bG h20<|ai (g0 h19)<|ai h20<|ai h19<|aT h (jy dp hp k0 hk_k0 hz c0 a0 r3 x5 x7 u7_1 u8_1 u9_1 u10_1 false [(.b false),.sk,.sk,.sk,.sk,(.b (a0.Kind !=7)),(.b (a0.Kind !=7)),(I a0.Kind),(W w 0),(W w 1),(W w 2),(W w 3),(W w 4),(W w 5),(W w 6),(W w 7),(W w 8),(W w 9),(W w 10),(W w 11),(W w 12),(W w 13),(W w 14),(W w 15),(W w 16),(W w 17),(W w 18),(W w 19),(W w 20),(W w 21),(W w 22),(W w 23),(W w 24),(W w 25),(W w 26),(W w 27),(W w 28),(W w 29),(W w 30),(W w 31),(W w 32),(W w 33)]) fun x21 h=>L h))
def pR:List dL:=(gM 117 116)::⟨some 118,.mv 9,some ⟨117,false⟩,false⟩::⟨some 119,.no 118,some ⟨117,false⟩,false⟩::⟨some 120,.mv 119,some ⟨117,false⟩,false⟩::⟨some 121,.fa 7 3,some ⟨120,true⟩,false⟩::⟨some 122,.ld none 121,some ⟨120,true⟩,false⟩::⟨some 123,.ln false 122,some ⟨120,true⟩,false⟩::⟨some 124,.bo .gtr false 123 (kI 0),some ⟨120,true⟩,false⟩::⟨some 125,.pk 120 124 (.c (.b false)),some ⟨117,false⟩,false⟩::(gp 126 (.pk 117 (.c (.b true)) 125))::ox
def dx(r3:(Bool×Bool×Bool))(x5:Bool)(x7:Bool)(u7_1:Bool)(u8_1:Bool)(u9_1:Bool):Option Bool:=
 if u9_1=true then
  (dh c0 a0 r3 x5 x7 u7_1 u8_1 u9_1 true).bind fun (x18:Bool)=>
  some x18
 else
  if 7≤a0.Kind then
   (dh c0 a0 r3 x5 x7 u7_1 u8_1 u9_1 false).bind fun (x19:Bool)=>
   some x19
  else
   (dh c0 a0 r3 x5 x7 u7_1 u8_1 u9_1 (decide (0<(a0.Then.length:Int)))).bind fun (x19:Bool)=>
   some x19
abbrev gE(c0:Checker)(a0:Stmt)(r3:(Bool×Bool×Bool))(x5:Bool)(x7:Bool)(u7_1:Bool)(u8_1:Bool)(u9_1:Bool)(x:Bool):St:=⟨[(0,(.p k0 0)),(3,(.p ⟨dp,3⟩ 0)),(5,(I a0.Kind)),(8,(.b r3.2.2)),(82,(.b x))],[(3,(aw a0))],ab hp k0 (an c0)⟩
theorem kj(hk_k0:k0.dp<dp)(hz:ax dp hp)(c0:Checker)(a0:Stmt)(r3:(Bool×Bool×Bool))(x5:Bool)(x7:Bool)(u7_1:Bool)(u8_1:Bool)(u9_1:Bool)(w:List AV)(x:Bool)(h:dx c0 a0 r3 x5 x7 u7_1 u8_1 u9_1=some x):nv G Ω0 ⟨dp,true⟩ [0,3,5,8,82] [0,3] pR ⟨[(116,(.b u9_1)),(115,(W w 0)),(114,(W w 1)),(113,(W w 2)),(112,(W w 3)),(111,(W w 4)),(110,(W w 5)),(109,(W w 6)),(108,(W w 7)),(107,(.b u8_1)),(106,(.b u8_1)),(105,(W w 8)),(104,(W w 9)),(103,(W w 10)),(102,(W w 11)),(101,(W w 12)),(100,(W w 13)),(99,(.b u7_1)),(98,(.b u7_1)),(97,(W w 14)),(96,(W w 15)),(95,(W w 16)),(94,(W w 17)),(93,(W w 18)),(92,(W w 19)),(91,(W w 20)),(90,(W w 21)),(89,(W w 22)),(88,(W w 23)),(87,(W w 24)),(86,(W w 25)),(85,(.b (!r3.1))),(84,(.b (!r3.1))),(83,(.b r3.1)),(0,(.p k0 0)),(3,(.p ⟨dp,3⟩ 0)),(5,(I a0.Kind)),(6,(.b r3.1)),(7,(.b r3.2.1)),(8,(.b r3.2.2)),(9,(.b (decide (7≤a0.Kind)))),(10,(.b x5)),(48,(.b x7))],[(3,(aw a0))],ab hp k0 (an c0)⟩=some (gE dp hp k0 c0 a0 r3 x5 x7 u7_1 u8_1 u9_1 x):=
 m7 (.or (Fs<|.jb (some 127) 10<|.ex fun (x18:Bool)=>ao (.jn (fV dp hp k0 c0 a0 r3 x5 x7 u7_1 u8_1 u9_1 true x18))<|.nil) (ew<|.or (Pk<|.jb (some 127) 10<|.ex fun (x19:Bool)=>ao (.jn (fV dp hp k0 c0 a0 r3 x5 x7 u7_1 u8_1 u9_1 false x19))<|.nil) (zu<|ao (.i (a0.Then.length:Int))<|Ln<|.jb (some 127) 10<|.ex fun (x19:Bool)=>ao (.jn (fV dp hp k0 c0 a0 r3 x5 x7 u7_1 u8_1 u9_1 (decide (0<(a0.Then.length:Int))) x19))<|.nil))) fun L=>bE h (fun h17 h=>Fp h17<|aT h (jz dp hp k0 hk_k0 hz c0 a0 r3 x5 x7 u7_1 u8_1 u9_1 true [.sk,.sk,.sk,.sk,.sk,.sk,.sk,.sk,(W w 0),(W w 1),(W w 2),(W w 3),(W w 4),(W w 5),(W w 6),(W w 7),(W w 8),(W w 9),(W w 10),(W w 11),(W w 12),(W w 13),(W w 14),(W w 15),(W w 16),(W w 17),(W w 18),(W w 19),(W w 20),(W w 21),(W w 22),(W w 23),(W w 24),(W w 25)]) fun x18 h=>L h) (fun h17 h=>Fq h17<|bZ h (fun h18 h=>bG (congrArg not (decide_eq_true h18))<|bG (congrArg not (decide_eq_true h18))<|ai (g0 h17)<|ai (congrArg not (decide_eq_true h18))<|ai h17<|aT h (jz dp hp k0 hk_k0 hz c0 a0 r3 x5 x7 u7_1 u8_1 u9_1 false [(.b false),.sk,.sk,.sk,.sk,(.b (!(decide (7≤a0.Kind)))),(.b (!(decide (7≤a0.Kind)))),(.b (decide (7≤a0.Kind))),(W w 0),(W w 1),(W w 2),(W w 3),(W w 4),(W w 5),(W w 6),(W w 7),(W w 8),(W w 9),(W w 10),(W w 11),(W w 12),(W w 13),(W w 14),(W w 15),(W w 16),(W w 17),(W w 18),(W w 19),(W w 20),(W w 21),(W w 22),(W w 23),(W w 24),(W w 25)]) fun x19 h=>L h) (fun h18 h=>bG (congrArg not (decide_eq_false h18))<|ai (rN dp)<|ai (g1 (congrArg not (decide_eq_false h18)))<|ai (aG ay a0.Then)<|ai (g1 (congrArg not (decide_eq_false h18)))<|ai (g0 h17)<|ai (congrArg not (decide_eq_false h18))<|ai h17<|aT h (jz dp hp k0 hk_k0 hz c0 a0 r3 x5 x7 u7_1 u8_1 u9_1 (decide (0<(a0.Then.length:Int))) [(.b (decide (0<(a0.Then.length:Int)))),(.b (decide (0<(a0.Then.length:Int)))),(I (a0.Then.length:Int)),(.l 92 (a0.Then.map ay)),(.p ⟨dp,3⟩ 7),(.b (!(decide (7≤a0.Kind)))),(.b (!(decide (7≤a0.Kind)))),(.b (decide (7≤a0.Kind))),(W w 0),(W w 1),(W w 2),(W w 3),(W w 4),(W w 5),(W w 6),(W w 7),(W w 8),(W w 9),(W w 10),(W w 11),(W w 12),(W w 13),(W w 14),(W w 15),(W w 16),(W w 17),(W w 18),(W w 19),(W w 20),(W w 21),(W w 22),(W w 23),(W w 24),(W w 25)]) fun x19 h=>L h))
def pS:List dL:=(gM 107 106)::⟨some 108,.mv 5,some ⟨107,false⟩,false⟩::⟨some 109,.bo .neq false 108 (kI 2),some ⟨107,false⟩,false⟩::⟨some 110,.mv 109,some ⟨107,false⟩,false⟩::⟨some 111,.fa 6 3,some ⟨110,true⟩,false⟩::⟨some 112,.ld none 111,some ⟨110,true⟩,false⟩::⟨some 113,.ln false 112,some ⟨110,true⟩,false⟩::⟨some 114,.bo .gtr false 113 (kI 0),some ⟨110,true⟩,false⟩::⟨some 115,.pk 110 114 (.c (.b false)),some ⟨107,false⟩,false⟩::(gp 116 (.pk 107 (.c (.b true)) 115))::pR
def dy(r3:(Bool×Bool×Bool))(x5:Bool)(x7:Bool)(u7_1:Bool)(u8_1:Bool):Option Bool:=
 if u8_1=true then
  (dx c0 a0 r3 x5 x7 u7_1 u8_1 true).bind fun (x16:Bool)=>
  some x16
 else
  if (a0.Kind !=2)=true then
   (dx c0 a0 r3 x5 x7 u7_1 u8_1 (decide (0<(a0.Args.length:Int)))).bind fun (x17:Bool)=>
   some x17
  else
   (dx c0 a0 r3 x5 x7 u7_1 u8_1 false).bind fun (x17:Bool)=>
   some x17
abbrev gG(c0:Checker)(a0:Stmt)(r3:(Bool×Bool×Bool))(x5:Bool)(x7:Bool)(u7_1:Bool)(u8_1:Bool)(x:Bool):St:=⟨[(0,(.p k0 0)),(3,(.p ⟨dp,3⟩ 0)),(5,(I a0.Kind)),(8,(.b r3.2.2)),(82,(.b x))],[(3,(aw a0))],ab hp k0 (an c0)⟩
theorem kl(hk_k0:k0.dp<dp)(hz:ax dp hp)(c0:Checker)(a0:Stmt)(r3:(Bool×Bool×Bool))(x5:Bool)(x7:Bool)(u7_1:Bool)(u8_1:Bool)(w:List AV)(x:Bool)(h:dy c0 a0 r3 x5 x7 u7_1 u8_1=some x):nv G Ω0 ⟨dp,true⟩ [0,3,5,8,82] [0,3] pS ⟨[(106,(.b u8_1)),(105,(W w 0)),(104,(W w 1)),(103,(W w 2)),(102,(W w 3)),(101,(W w 4)),(100,(W w 5)),(99,(.b u7_1)),(98,(.b u7_1)),(97,(W w 6)),(96,(W w 7)),(95,(W w 8)),(94,(W w 9)),(93,(W w 10)),(92,(W w 11)),(91,(W w 12)),(90,(W w 13)),(89,(W w 14)),(88,(W w 15)),(87,(W w 16)),(86,(W w 17)),(85,(.b (!r3.1))),(84,(.b (!r3.1))),(83,(.b r3.1)),(0,(.p k0 0)),(3,(.p ⟨dp,3⟩ 0)),(5,(I a0.Kind)),(6,(.b r3.1)),(7,(.b r3.2.1)),(8,(.b r3.2.2)),(9,(.b (decide (7≤a0.Kind)))),(10,(.b x5)),(48,(.b x7))],[(3,(aw a0))],ab hp k0 (an c0)⟩=some (gG dp hp k0 c0 a0 r3 x5 x7 u7_1 u8_1 x):=
 m7 (.or (Fs<|.jb (some 117) 20<|.ex fun (x16:Bool)=>ao (.jn (gE dp hp k0 c0 a0 r3 x5 x7 u7_1 u8_1 true x16))<|.nil) (ew<|.or (zu<|ao (.i (a0.Args.length:Int))<|Ln<|.jb (some 117) 20<|.ex fun (x17:Bool)=>ao (.jn (gE dp hp k0 c0 a0 r3 x5 x7 u7_1 u8_1 (decide (0<(a0.Args.length:Int))) x17))<|.nil) (Pk<|.jb (some 117) 20<|.ex fun (x17:Bool)=>ao (.jn (gE dp hp k0 c0 a0 r3 x5 x7 u7_1 u8_1 false x17))<|.nil))) fun L=>bE h (fun h15 h=>Fp h15<|aT h (kj dp hp k0 hk_k0 hz c0 a0 r3 x5 x7 u7_1 u8_1 true [.sk,.sk,.sk,.sk,.sk,.sk,.sk,.sk,(W w 0),(W w 1),(W w 2),(W w 3),(W w 4),(W w 5),(W w 6),(W w 7),(W w 8),(W w 9),(W w 10),(W w 11),(W w 12),(W w 13),(W w 14),(W w 15),(W w 16),(W w 17)]) fun x16 h=>L h) (fun h15 h=>Fq h15<|bE h (fun h16 h=>bG h16<|ai (rN dp)<|ai (g1 h16)<|ai (aG az a0.Args)<|ai (g1 h16)<|ai (g0 h15)<|ai h16<|ai h15<|aT h (kj dp hp k0 hk_k0 hz c0 a0 r3 x5 x7 u7_1 u8_1 (decide (0<(a0.Args.length:Int))) [(.b (decide (0<(a0.Args.length:Int)))),(.b (decide (0<(a0.Args.length:Int)))),(I (a0.Args.length:Int)),(.l 37 (a0.Args.map az)),(.p ⟨dp,3⟩ 6),(.b (a0.Kind !=2)),(.b (a0.Kind !=2)),(I a0.Kind),(W w 0),(W w 1),(W w 2),(W w 3),(W w 4),(W w 5),(W w 6),(W w 7),(W w 8),(W w 9),(W w 10),(W w 11),(W w 12),(W w 13),(W w 14),(W w 15),(W w 16),(W w 17)]) fun x17 h=>L h) (fun h16 h=>bG h16<|bG h16<|ai (g0 h15)<|ai h16<|ai h15<|aT h (kj dp hp k0 hk_k0 hz c0 a0 r3 x5 x7 u7_1 u8_1 false [(.b false),.sk,.sk,.sk,.sk,(.b (a0.Kind !=2)),(.b (a0.Kind !=2)),(I a0.Kind),(W w 0),(W w 1),(W w 2),(W w 3),(W w 4),(W w 5),(W w 6),(W w 7),(W w 8),(W w 9),(W w 10),(W w 11),(W w 12),(W w 13),(W w 14),(W w 15),(W w 16),(W w 17)]) fun x17 h=>L h))
def pT:List dL:=(gM 99 98)::⟨some 100,.mv 8,some ⟨99,false⟩,false⟩::⟨some 101,.no 100,some ⟨99,false⟩,false⟩::⟨some 102,.mv 101,some ⟨99,false⟩,false⟩::⟨some 103,.mv 10,some ⟨102,true⟩,false⟩::⟨some 104,.no 103,some ⟨102,true⟩,false⟩::⟨some 105,.pk 102 104 (.c (.b false)),some ⟨99,false⟩,false⟩::(gp 106 (.pk 99 (.c (.b true)) 105))::pS
def cn(r3:(Bool×Bool×Bool))(x5:Bool)(x7:Bool)(u7_1:Bool):Option Bool:=
 if u7_1=true then
  (dy c0 a0 r3 x5 x7 u7_1 true).bind fun (x14:Bool)=>
  some x14
 else
  if r3.2.2=true then
   (dy c0 a0 r3 x5 x7 u7_1 false).bind fun (x15:Bool)=>
   some x15
  else
   (dy c0 a0 r3 x5 x7 u7_1 (!x5)).bind fun (x15:Bool)=>
   some x15
abbrev dz(c0:Checker)(a0:Stmt)(r3:(Bool×Bool×Bool))(x5:Bool)(x7:Bool)(u7_1:Bool)(x:Bool):St:=⟨[(0,(.p k0 0)),(3,(.p ⟨dp,3⟩ 0)),(5,(I a0.Kind)),(8,(.b r3.2.2)),(82,(.b x))],[(3,(aw a0))],ab hp k0 (an c0)⟩
theorem en(hk_k0:k0.dp<dp)(hz:ax dp hp)(c0:Checker)(a0:Stmt)(r3:(Bool×Bool×Bool))(x5:Bool)(x7:Bool)(u7_1:Bool)(w:List AV)(x:Bool)(h:cn c0 a0 r3 x5 x7 u7_1=some x):nv G Ω0 ⟨dp,true⟩ [0,3,5,8,82] [0,3] pT ⟨[(98,(.b u7_1)),(97,(W w 0)),(96,(W w 1)),(95,(W w 2)),(94,(W w 3)),(93,(W w 4)),(92,(W w 5)),(91,(W w 6)),(90,(W w 7)),(89,(W w 8)),(88,(W w 9)),(87,(W w 10)),(86,(W w 11)),(85,(.b (!r3.1))),(84,(.b (!r3.1))),(83,(.b r3.1)),(0,(.p k0 0)),(3,(.p ⟨dp,3⟩ 0)),(5,(I a0.Kind)),(6,(.b r3.1)),(7,(.b r3.2.1)),(8,(.b r3.2.2)),(9,(.b (decide (7≤a0.Kind)))),(10,(.b x5)),(48,(.b x7))],[(3,(aw a0))],ab hp k0 (an c0)⟩=some (dz dp hp k0 c0 a0 r3 x5 x7 u7_1 x):=
 m7 (.or (Fs<|.jb (some 107) 30<|.ex fun (x14:Bool)=>ao (.jn (gG dp hp k0 c0 a0 r3 x5 x7 u7_1 true x14))<|.nil) (ew<|.or (bf<|bf<|bt<|bf<|bf<|.jb (some 107) 30<|.ex fun (x15:Bool)=>ao (.jn (gG dp hp k0 c0 a0 r3 x5 x7 u7_1 false x15))<|.nil) (Ph<|.jb (some 107) 30<|.ex fun (x15:Bool)=>ao (.jn (gG dp hp k0 c0 a0 r3 x5 x7 u7_1 (!x5) x15))<|.nil))) fun L=>bE h (fun h13 h=>Fp h13<|aT h (kl dp hp k0 hk_k0 hz c0 a0 r3 x5 x7 u7_1 true [.sk,.sk,.sk,.sk,.sk,.sk,(W w 0),(W w 1),(W w 2),(W w 3),(W w 4),(W w 5),(W w 6),(W w 7),(W w 8),(W w 9),(W w 10),(W w 11)]) fun x14 h=>L h) (fun h13 h=>Fq h13<|bE h (fun h14 h=>bG (congrArg not h14)<|ai (g0 h13)<|ai (congrArg not h14)<|ai h13<|aT h (kl dp hp k0 hk_k0 hz c0 a0 r3 x5 x7 u7_1 false [(.b false),.sk,.sk,(.b (!r3.2.2)),(.b (!r3.2.2)),(.b r3.2.2),(W w 0),(W w 1),(W w 2),(W w 3),(W w 4),(W w 5),(W w 6),(W w 7),(W w 8),(W w 9),(W w 10),(W w 11)]) fun x15 h=>L h) (fun h14 h=>bG (congrArg not h14)<|ai (g0 h13)<|ai (congrArg not h14)<|ai h13<|aT h (kl dp hp k0 hk_k0 hz c0 a0 r3 x5 x7 u7_1 (!x5) [(.b (!x5)),(.b (!x5)),(.b x5),(.b (!r3.2.2)),(.b (!r3.2.2)),(.b r3.2.2),(W w 0),(W w 1),(W w 2),(W w 3),(W w 4),(W w 5),(W w 6),(W w 7),(W w 8),(W w 9),(W w 10),(W w 11)]) fun x15 h=>L h))
def wx:List dL:=(gM 83 6)::(gp 84 (.no 83))::(gM 85 84)::⟨some 86,.fa 1 3,some ⟨85,true⟩,false⟩::⟨some 87,.ld none 86,some ⟨85,true⟩,false⟩::⟨some 88,.bo .neq false 87 (kI 0),some ⟨85,true⟩,false⟩::(gp 89 (.pk 85 88 (.c (.b false))))::(gM 90 89)::⟨some 91,.mv 7,some ⟨90,false⟩,false⟩::⟨some 92,.no 91,some ⟨90,false⟩,false⟩::⟨some 93,.mv 92,some ⟨90,false⟩,false⟩::⟨some 94,.fa 2 3,some ⟨93,true⟩,false⟩::⟨some 95,.ld none 94,some ⟨93,true⟩,false⟩::⟨some 96,.bo .neq false 95 (kI 0),some ⟨93,true⟩,false⟩::⟨some 97,.pk 93 96 (.c (.b false)),some ⟨90,false⟩,false⟩::(gp 98 (.pk 90 (.c (.b true)) 97))::pT
def gI(r3:(Bool×Bool×Bool))(x5:Bool)(x7:Bool):Option Bool:=
 if r3.1=true then
  if r3.2.1=true then
   (cn c0 a0 r3 x5 x7 false).bind fun (x12:Bool)=>
   some x12
  else
   (cn c0 a0 r3 x5 x7 (a0.Other !=0)).bind fun (x12:Bool)=>
   some x12
 else
  if (a0.Var !=0)=true then
   (cn c0 a0 r3 x5 x7 true).bind fun (x12:Bool)=>
   some x12
  else
   if r3.2.1=true then
    (cn c0 a0 r3 x5 x7 false).bind fun (x13:Bool)=>
    some x13
   else
    (cn c0 a0 r3 x5 x7 (a0.Other !=0)).bind fun (x13:Bool)=>
    some x13
abbrev pU(c0:Checker)(a0:Stmt)(r3:(Bool×Bool×Bool))(x5:Bool)(x7:Bool)(x:Bool):St:=⟨[(0,(.p k0 0)),(3,(.p ⟨dp,3⟩ 0)),(5,(I a0.Kind)),(8,(.b r3.2.2)),(82,(.b x))],[(3,(aw a0))],ab hp k0 (an c0)⟩
theorem vG(hk_k0:k0.dp<dp)(hz:ax dp hp)(c0:Checker)(a0:Stmt)(r3:(Bool×Bool×Bool))(x5:Bool)(x7:Bool)(x:Bool)(h:gI c0 a0 r3 x5 x7=some x):nv G Ω0 ⟨dp,true⟩ [0,3,5,8,82] [0,3] wx ⟨[(0,(.p k0 0)),(3,(.p ⟨dp,3⟩ 0)),(5,(I a0.Kind)),(6,(.b r3.1)),(7,(.b r3.2.1)),(8,(.b r3.2.2)),(9,(.b (decide (7≤a0.Kind)))),(10,(.b x5)),(48,(.b x7))],[(3,(aw a0))],ab hp k0 (an c0)⟩=some (pU dp hp k0 c0 a0 r3 x5 x7 x):=
 m7 (.or (bf<|bf<|bf<|bf<|bt<|bt<|bt<|.or (Lm<|.jb (some 99) 38<|.ex fun (x12:Bool)=>ao (.jn (dz dp hp k0 c0 a0 r3 x5 x7 false x12))<|.nil) (MO<|.jb (some 99) 38<|.ex fun (x12:Bool)=>ao (.jn (dz dp hp k0 c0 a0 r3 x5 x7 (a0.Other !=0) x12))<|.nil)) (tJ<|.or (Fs<|.jb (some 99) 38<|.ex fun (x12:Bool)=>ao (.jn (dz dp hp k0 c0 a0 r3 x5 x7 true x12))<|.nil) (ew<|.or (Lm<|.jb (some 99) 38<|.ex fun (x13:Bool)=>ao (.jn (dz dp hp k0 c0 a0 r3 x5 x7 false x13))<|.nil) (MO<|.jb (some 99) 38<|.ex fun (x13:Bool)=>ao (.jn (dz dp hp k0 c0 a0 r3 x5 x7 (a0.Other !=0) x13))<|.nil)))) fun L=>bE h (fun h10 h=>bG (congrArg not h10)<|sj (congrArg not h10)<|ai hf<|ai hf<|ai hf<|bE h (fun h11 h=>bG (congrArg not h11)<|ai (g1 (congrArg not h11))<|ai hf<|ai (congrArg not h11)<|ai ff<|aT h (en dp hp k0 hk_k0 hz c0 a0 r3 x5 x7 false [(.b false),.sk,.sk,.sk,(.b (!r3.2.1)),(.b (!r3.2.1)),(.b r3.2.1),(.b false),(.b false),.sk,.sk,.sk]) fun x12 h=>L h) (fun h11 h=>bG (congrArg not h11)<|ai (rN dp)<|ai (g1 (congrArg not h11))<|ai hf<|ai (congrArg not h11)<|ai ff<|aT h (en dp hp k0 hk_k0 hz c0 a0 r3 x5 x7 (a0.Other !=0) [(.b (a0.Other !=0)),(.b (a0.Other !=0)),(I a0.Other),(.p ⟨dp,3⟩ 2),(.b (!r3.2.1)),(.b (!r3.2.1)),(.b r3.2.1),(.b false),(.b false),.sk,.sk,.sk]) fun x12 h=>L h)) (fun h10 h=>bG (congrArg not h10)<|ai (rN dp)<|sj (congrArg not h10)<|bE h (fun h11 h=>Fp h11<|aT h (en dp hp k0 hk_k0 hz c0 a0 r3 x5 x7 true [.sk,.sk,.sk,.sk,.sk,.sk,.sk,(.b (a0.Var !=0)),(.b (a0.Var !=0)),(.b (a0.Var !=0)),(I a0.Var),(.p ⟨dp,3⟩ 1)]) fun x12 h=>L h) (fun h11 h=>Fq h11<|bE h (fun h12 h=>JW (congrArg not h12)<|ai (g0 h11)<|ai (congrArg not h12)<|ai h11<|aT h (en dp hp k0 hk_k0 hz c0 a0 r3 x5 x7 false [(.b false),.sk,.sk,.sk,(.b (!r3.2.1)),(.b (!r3.2.1)),(.b r3.2.1),(.b (a0.Var !=0)),(.b (a0.Var !=0)),(.b (a0.Var !=0)),(I a0.Var),(.p ⟨dp,3⟩ 1)]) fun x13 h=>L h) (fun h12 h=>bG (congrArg not h12)<|ai (rN dp)<|ai (g1 (congrArg not h12))<|ai (g0 h11)<|ai (congrArg not h12)<|ai h11<|aT h (en dp hp k0 hk_k0 hz c0 a0 r3 x5 x7 (a0.Other !=0) [(.b (a0.Other !=0)),(.b (a0.Other !=0)),(I a0.Other),(.p ⟨dp,3⟩ 2),(.b (!r3.2.1)),(.b (!r3.2.1)),(.b r3.2.1),(.b (a0.Var !=0)),(.b (a0.Var !=0)),(.b (a0.Var !=0)),(I a0.Var),(.p ⟨dp,3⟩ 1)]) fun x13 h=>L h)))
def eZ(v0_173:Nat):Option (Nat⊕(Int⊕(Nat×Bool))):=
 if (v0_173:Int)<(a0.Args.length:Int) then
  (a0.Args[v0_173]?).bind fun (y24:ak)=>
  (ka y24 (c0.p.Vars.length:Int)).bind fun (r26:Int)=>
  if (r26 !=0)=true then
   some (.inr (.inl r26))
  else
   if IntKind.i64.wrap ((v0_173:Int)+1)=((v0_173+1:Nat):Int) then
    some (.inl (v0_173+1))
   else none
 else
  some (.inr (.inr (v0_173,decide ((v0_173:Int)<(a0.Args.length:Int)))))
abbrev xn(dp:Nat)(hp:HP)(k0:Key)(c0:Checker)(a0:Stmt)(v:Nat):St:=⟨[(0,(.p k0 0)),(171,(.l 37 (a0.Args.map az))),(172,(I (a0.Args.length:Int))),(173,(I (v:Int)))],[],ab hp k0 (an c0)⟩
abbrev lL(dp:Nat)(hp:HP)(k0:Key)(c0:Checker)(a0:Stmt)(x:(Int⊕(Nat×Bool))):aI×St:=match x with | .inl z1=>(.ret,⟨[(4,(I z1))],[],ab hp k0 (an c0)⟩) | .inr (z1,z2)=>((.ex 1),⟨[(0,(.p k0 0)),(171,(.l 37 (a0.Args.map az))),(172,(I (a0.Args.length:Int))),(173,(I (z1:Int))),(174,(.b z2))],[],ab hp k0 (an c0)⟩)
theorem wy(hk_k0:k0.dp<dp)(hz:ax dp hp)(c0:Checker)(a0:Stmt)(v0_173:Nat)(o:Nat⊕(Int⊕(Nat×Bool)))(h:eZ c0 a0 v0_173=some o):bB ⟨dp,true⟩ Mp (xn dp hp k0 c0 a0) (lL dp hp k0 c0 a0) v0_173 o:=
 bL (.or (bt<|ao (.n v0_173)<|.ex fun (y24:ak)=>ao (.v (.a (dc y24)))<|Ln<|ao (.l (an c0))<|ao (.i (c0.p.Vars.length:Int))<|xI fun r26=>oN (ao (.i ((v0_173+1:Nat):Int))<|.nil)) (bf<|.nil)) fun L=>bZ h (fun h23 h=>ai (decide_eq_true h23)<|ai (rI v0_173)<|bO h fun y24 h25 h=>ai (og az h25 (dt _))<|ai ((by simp [dc,AV.bb,AV.bM,AV.deep,AV.bP,aP hk_k0,Nat.le_of_lt hk_k0]):(([(176,(.a (dc y24))),(175,(.e (.a (dc y24)) 0)),(0,(.p k0 0)),(171,(.l 37 (a0.Args.map az))),(172,(I (a0.Args.length:Int))),(173,(I (v0_173:Int)))]:List (Nat×AV)).all (fun y=>y.2.bb ⟨dp,13⟩)&&([]:List (Nat×List AV)).all (fun y=>AV.bM ⟨dp,13⟩ y.2))=true)<|ai (rfl:dp=dp)<|ai (rN dp)<|ai tt<|ai (rN dp)<|ai tt<|ai (rN dp)<|bJ<|bJ<|ai tt<|ai (Nat.ne_of_lt hk_k0)<|ai (cD hp k0 (an c0))<|ai tt<|ai (aG aW c0.p.Vars)<|ai tt<|aT h (rX y24 (c0.p.Vars.length:Int)) fun r26 h=>bE h (fun h28 h=>ai h28<|L h) (fun h28 h=>ai h28<|aR h fun w29 h=>ai w29<|L h)) (fun h23 h=>ai (decide_eq_false h23)<|L h)
def eK:Option (Int⊕Unit):=
 (lp (fun v=>eZ c0 a0 v) 0).bind fun (x23:(Int⊕(Nat×Bool)))=>match x23 with
 | .inl ya_24=>
  some (.inl ya_24)
 | .inr yb_24=>
  some (.inr ())
abbrev eL(dp:Nat)(hp:HP)(k0:Key)(c0:Checker)(a0:Stmt)(x:(Int⊕Unit)):aI×St:=match x with | .inl z1=>(.ret,⟨[(4,(I z1))],[],ab hp k0 (an c0)⟩) | .inr ()=>(.ret,⟨[(4,(I 0))],[],ab hp k0 (an c0)⟩)
theorem oy(hk_k0:k0.dp<dp)(hz:ax dp hp)(c0:Checker)(a0:Stmt)(x:(Int⊕Unit))(h:eK c0 a0=some x):run G Ω0 ⟨dp,true⟩ Mq ⟨[(0,(.p k0 0)),(3,(.p ⟨dp,3⟩ 0))],[(3,(aw a0))],ab hp k0 (an c0)⟩=some (eL dp hp k0 c0 a0 x):=
 Lk (bt<|ao (.i (a0.Args.length:Int))<|.or (.ex fun (ya_24:Int)=>ao (.cu (lL dp hp k0 c0 a0 (.inl ya_24)))<|.nil) (.ex fun (yb_24:(Nat×Bool))=>ao (.cu (lL dp hp k0 c0 a0 (.inr yb_24)))<|.nil)) fun L=>ai (rN dp)<|ai (aG az a0.Args)<|ec h (gl (wy dp hp k0 hk_k0 hz c0 a0) 0) (fun ya_24 h=>L h) (fun yb_24 h=>L h)
def eM(r3:(Bool×Bool×Bool)):Option (Int⊕Unit):=
 if r3.2.2=true then
  (ka a0.Expr (c0.p.Vars.length:Int)).bind fun (r20:Int)=>
  if (r20 !=0)=true then
   some (.inl r20)
  else
   (eK c0 a0).bind fun (x23:(Int⊕Unit))=>match x23 with
   | .inl ya_24=>
    some (.inl ya_24)
   | .inr yb_24=>
    some (.inr ())
 else
  (eK c0 a0).bind fun (x20:(Int⊕Unit))=>match x20 with
  | .inl ya_21=>
   some (.inl ya_21)
  | .inr yb_21=>
   some (.inr ())
abbrev eN(dp:Nat)(hp:HP)(k0:Key)(c0:Checker)(a0:Stmt)(r3:(Bool×Bool×Bool))(x:(Int⊕Unit)):aI×St:=match x with | .inl z1=>(.ret,⟨[(4,(I z1))],[],ab hp k0 (an c0)⟩) | .inr ()=>(.ret,⟨[(4,(I 0))],[],ab hp k0 (an c0)⟩)
theorem oz(hk_k0:k0.dp<dp)(hz:ax dp hp)(c0:Checker)(a0:Stmt)(r3:(Bool×Bool×Bool))(x:(Int⊕Unit))(h:eM c0 a0 r3=some x):run G Ω0 ⟨dp,true⟩ Mr ⟨[(0,(.p k0 0)),(3,(.p ⟨dp,3⟩ 0)),(8,(.b r3.2.2))],[(3,(aw a0))],ab hp k0 (an c0)⟩=some (eN dp hp k0 c0 a0 r3 x):=
 Lk (.or (bt<|bt<|bf<|ao (.l (an c0))<|ao (.i (c0.p.Vars.length:Int))<|xI fun r20=>oN (.fb<|.or (.ex fun (ya_24:Int)=>ao (.uz (eL dp hp k0 c0 a0 (.inl ya_24)))<|.nil) (.ex fun (yb_24:Unit)=>ao (.uz (eL dp hp k0 c0 a0 (.inr yb_24)))<|.nil))) (bf<|.fb<|.or (.ex fun (ya_21:Int)=>ao (.uz (eL dp hp k0 c0 a0 (.inl ya_21)))<|.nil) (.ex fun (yb_21:Unit)=>ao (.uz (eL dp hp k0 c0 a0 (.inr yb_21)))<|.nil))) fun L=>bE h (fun h19 h=>ai h19<|bJ<|ai (rN dp)<|bJ<|bJ<|ai tt<|ai (Nat.ne_of_lt hk_k0)<|ai (cD hp k0 (an c0))<|ai tt<|ai (aG aW c0.p.Vars)<|ai tt<|aT h (rX a0.Expr (c0.p.Vars.length:Int)) fun r20 h=>bE h (fun h22 h=>ai h22<|L h) (fun h22 h=>ai h22<|ec h (oy dp hp k0 hk_k0 hz c0 a0) (fun ya_24 h=>L h) (fun yb_24 h=>L h))) (fun h19 h=>ai h19<|ec h (oy dp hp k0 hk_k0 hz c0 a0) (fun ya_21 h=>L h) (fun yb_21 h=>L h))
abbrev yI(dp:Nat)(hp:HP)(k0:Key)(c0:Checker)(a0:Stmt)(r:Int):aQ×HP:=(.ret (I r),ab hp k0 (an c0))
def jA:Option Int:=
 if a0.Kind<1 then
  some 7
 else
  if 8<a0.Kind then
   some 7
  else
   (qR a0.Kind).bind fun (r3:(Bool×Bool×Bool))=>
   (gy c0 a0 r3).bind fun (x5:Bool)=>
   (gD c0 a0 r3 x5).bind fun (x7:Bool)=>
   if x7=true then
    some 5
   else
    (gI c0 a0 r3 x5 x7).bind fun (x10:Bool)=>
    if x10=true then
     some 1
    else
     if (a0.Kind==2)=true then
      (dG a0.Other).bind fun (j14:Nat)=>
      (c0.p.Funcs[j14]?).bind fun (y16:Func)=>
      if ((a0.Args.length:Int) !=(y16.Params.length:Int))=true then
       some 1
      else
       (eM c0 a0 r3).bind fun (x19:(Int⊕Unit))=>match x19 with
       | .inl ya_20=>
        some ya_20
       | .inr yb_20=>
        some 0
     else
      (eM c0 a0 r3).bind fun (x14:(Int⊕Unit))=>match x14 with
      | .inl ya_15=>
       some ya_15
      | .inr yb_15=>
       some 0
theorem wz(hk_k0:k0.dp<dp)(hz:ax dp hp)(c0:Checker)(a0:Stmt)(r:Int)(h:jA c0 a0=some r):call G Ω0 ⟨dp,true⟩ 140 [(.p k0 0),(.a (aw a0))] (ab hp k0 (an c0))=some (yI dp hp k0 c0 a0 r):=
 aJ abY (bt<|.or (bf<|bf<|bt<|bt<|.nil) (bt<|bt<|bf<|oN (.ex fun (r3:(Bool×Bool×Bool))=>ao (.v (.tp [(.b r3.1),(.b r3.2.1),(.b r3.2.2)]))<|.jb (some 31) 17<|.ex fun (x5:Bool)=>ao (.jn (pN dp hp k0 c0 a0 r3 x5))<|.jb (some 49) 33<|.ex fun (x7:Bool)=>ao (.jn (pQ dp hp k0 c0 a0 r3 x5 x7))<|oN (.jb (some 83) 54<|.ex fun (x10:Bool)=>ao (.jn (pU dp hp k0 c0 a0 r3 x5 x7 x10))<|oN (.or (zu<|ao (.i (a0.Args.length:Int))<|bt<|bt<|bt<|bt<|bt<|bf<|ao (.l (an c0))<|zu<|xN fun j14=>.ex fun (y16:Func)=>ao (.v (.a (dB y16)))<|ew<|ao (.i (y16.Params.length:Int))<|gT<|oN (.fb<|.or (.ex fun (ya_20:Int)=>ao (.uz (eN dp hp k0 c0 a0 r3 (.inl ya_20)))<|.nil) (.ex fun (yb_20:Unit)=>ao (.uz (eN dp hp k0 c0 a0 r3 (.inr yb_20)))<|.nil))) (bf<|bf<|bf<|bf<|bf<|bf<|bf<|bf<|bf<|bf<|bf<|bf<|bf<|bf<|bf<|bf<|bf<|.fb<|.or (.ex fun (ya_15:Int)=>ao (.uz (eN dp hp k0 c0 a0 r3 (.inl ya_15)))<|.nil) (.ex fun (yb_15:Unit)=>ao (.uz (eN dp hp k0 c0 a0 r3 (.inr yb_15)))<|.nil))))))) fun L=>ai ((by simp [aw,AV.bb,AV.bM,AV.deep,AV.bP,aP hk_k0,Nat.le_of_lt hk_k0]):(((.a (aw a0)):AV).deep dp&&(([(0,(.p k0 0)),(1,(.a (aw a0)))]:List (Nat×AV)).all (fun y=>y.2.bb ⟨dp,3⟩)&&([]:List (Nat×List AV)).all (fun y=>AV.bM ⟨dp,3⟩ y.2)))=true)<|ai (rN dp)<|bZ h (fun h1 h=>cP (decide_eq_true h1)<|ai (decide_eq_true h1)<|ai tt<|L h) (fun h1 h=>cP (decide_eq_false h1)<|ai (decide_eq_false h1)<|bZ h (fun h2 h=>ai (decide_eq_true h2)<|L h) (fun h2 h=>ai (decide_eq_false h2)<|aT h (B5 a0.Kind) fun r3 h=>aT h (vE dp hp k0 hk_k0 hz c0 a0 r3) fun x5 h=>ai tt<|aT h (vF dp hp k0 hk_k0 hz c0 a0 r3 x5) fun x7 h=>bE h (fun h9 h=>ai h9<|L h) (fun h9 h=>ai h9<|aT h (vG dp hp k0 hk_k0 hz c0 a0 r3 x5 x7) fun x10 h=>bE h (fun h12 h=>ai h12<|L h) (fun h12 h=>ai h12<|bJ<|bJ<|bE h (fun h13 h=>vt h13<|ai (rN dp)<|ai tt<|ai (g1 h13)<|ai (aG az a0.Args)<|ai tt<|vt h13<|ai tt<|vt h13<|ai tt<|ai (g1 h13)<|ai (Nat.ne_of_lt hk_k0)<|ai (cD hp k0 (an c0))<|ai tt<|vt h13<|ai (rN dp)<|ai tt<|ai (g1 h13)<|rR h fun j14 h15 h=>ai h15<|bO h fun y16 h17 h=>ai (aU aS h17)<|ai tt<|vt h13<|ai tt<|ai (g1 h13)<|ai (aG (I) y16.Params)<|ai tt<|sj h13<|bE h (fun h18 h=>ai h18<|L h) (fun h18 h=>ai h18<|ec h (oz dp hp k0 hk_k0 hz c0 a0 r3) (fun ya_20 h=>L h) (fun yb_20 h=>L h))) (fun h13 h=>bG h13<|bG h13<|bG h13<|bG h13<|bG h13<|bG h13<|bG h13<|sj h13<|ai ff<|ec h (oz dp hp k0 hk_k0 hz c0 a0 r3) (fun ya_15 h=>L h) (fun yb_15 h=>L h))))))
end
section
variable (dp:Nat)(hp:HP)(k0:Key)(a0:Stmt)
abbrev wA(dp:Nat)(hp:HP)(k0:Key)(k1:Key)(k2:Key)(a0:Stmt)(a1:Int)(c0:Unit)(c1:Checker)(c2:Int)(r:(Bool×Unit×Int)):aQ×HP:=(.ret (.b r.1),ab (ab (ab hp k0 [(.p k1 0)]) k1 (an c1)) k2 [(I r.2.2)])
def kL(a1:Int)(c0:Unit)(c1:Checker)(c2:Int):Option (Bool×Unit×Int):=
 (jA c1 a0).bind fun (r1:Int)=>
 some ((r1==0),(),r1)
theorem ui(hk_k0:k0.dp<dp)(k1:Key)(hk_k1:k1.dp<dp)(k2:Key)(hk_k2:k2.dp<dp)(hn_k0_k1:k0≠k1)(hn_k0_k2:k0≠k2)(hn_k1_k2:k1≠k2)(hz:ax dp hp)(a0:Stmt)(a1:Int)(c0:Unit)(c1:Checker)(c2:Int)(r:(Bool×Unit×Int))(h:kL a0 a1 c0 c1 c2=some r):call G Ω0 ⟨dp,false⟩ 139 [(.a (aw a0)),(I a1),(.p k0 0),(.p k2 0)] (ab (ab (ab hp k0 [(.p k1 0)]) k1 (an c1)) k2 [(I c2)])=some (wA dp hp k0 k1 k2 a0 a1 c0 c1 c2 r):=
 aJ abX (bf<|ao (.l [(.p k1 0)])<|bt<|xI fun r1=>ao (.h (boxes dp [(4,(aw a0))] (ab (ab (ab hp k0 [(.p k1 0)]) k1 (an c1)) k2 [(I c2)])))<|bf<|ao (.l [(I c2)])<|bf<|ao (.h (ab (ab (ab hp k0 [(.p k1 0)]) k1 (an c1)) k2 [(I r1)]))<|bf<|ao (.l [(I r1)])<|.nil) fun L=>ai ((by simp [aw,AV.bb,AV.bM,AV.deep,AV.bP,aP hk_k0,Nat.le_of_lt hk_k0,aP hk_k1,Nat.le_of_lt hk_k1,aP hk_k2,Nat.le_of_lt hk_k2]):(((.a (aw a0)):AV).deep dp&&(([(0,(.a (aw a0))),(1,(I a1)),(2,(.p k0 0)),(3,(.p k2 0))]:List (Nat×AV)).all (fun y=>y.2.bb ⟨dp,4⟩)&&([]:List (Nat×List AV)).all (fun y=>AV.bM ⟨dp,4⟩ y.2)))=true)<|ai (Nat.ne_of_lt hk_k0)<|ai (acu hn_k0_k1 hn_k0_k2:(ab (ab (ab hp k0 [(.p k1 0)]) k1 (an c1)) k2 [(I c2)]) k0=some [(.p k1 0)])<|ai (rN dp)<|ai tt<|bO h fun r1 ek2 h=>have ek2:call G Ω0 ⟨dp+1,true⟩ 140 [(.p k1 0),(.a (aw a0))] (boxes dp [(4,(aw a0))] (ab (ab (ab hp k0 [(.p k1 0)]) k1 (an c1)) k2 [(I c2)]))=some (.ret (I r1),boxes dp [(4,(aw a0))] (ab (ab (ab hp k0 [(.p k1 0)]) k1 (an c1)) k2 [(I c2)])):=jP (dA (hp1:=ab (ab (ab hp k0 [(.p k1 0)]) k1 (an c1)) k2 [(I c2)]) (Nat.ne_of_lt hk_k1) (sB (Ne.symm hn_k1_k2) (dI ..))) (dA (hp1:=ab (ab (ab hp k0 [(.p k1 0)]) k1 (an c1)) k2 [(I c2)]) (Nat.ne_of_lt hk_k1) (sB (Ne.symm hn_k1_k2) (dI ..))) (wz (dp+1) (boxes dp [(4,(aw a0))] (ab (ab (ab hp k0 [(.p k1 0)]) k1 (an c1)) k2 [(I c2)])) k1 (Nat.lt_succ_of_lt hk_k1) (bX (aF hk_k2 (aF hk_k1 (aF hk_k0 (hz))))) c1 a0 _ ek2);ai ek2<|ai ff<|ai (Nat.ne_of_lt hk_k2)<|ai (cD (ab (ab hp k0 [(.p k1 0)]) k1 (an c1)) k2 [(I c2)])<|ai tt<|ai (Nat.ne_of_lt hk_k2)<|ai (dI (ab (ab hp k0 [(.p k1 0)]) k1 (an c1)) k2 [(I c2)] [(I r1)])<|ai (Nat.ne_of_lt hk_k2)<|ai (cD (ab (ab hp k0 [(.p k1 0)]) k1 (an c1)) k2 [(I r1)])<|L h
end
section
variable (dp:Nat)(hp:HP)(k0:Key)(k1:Key)(k2:Key)(a0:(List Stmt))(a1:Int)(c0:Unit)(c1:Checker)(c2:Int)
abbrev pv(dp:Nat)(hp:HP)(k0:Key)(k1:Key)(k2:Key)(a0:(List Stmt))(a1:Int)(c0:Unit)(c1:Checker)(c2:Int)(r:(Bool×Unit×Int)):aQ×HP:=(.ret (.b r.1),ab (ab (ab hp k0 [(.p k1 0)]) k1 (an c1)) k2 [(I r.2.2)])
abbrev eB(r:(Bool×Unit×Int)):Prop:=call G Ω0 ⟨dp,false⟩ 137 [(.l 92 (a0.map ay)),(I a1),(.f 139 [(.p k0 0),(.p k2 0)])] (ab (ab (ab hp k0 [(.p k1 0)]) k1 (an c1)) k2 [(I c2)])=some (pv dp hp k0 k1 k2 a0 a1 c0 c1 c2 r)
end
structure eC where
 f_scope_Walk__scope_checker_stmts_1:(List Stmt)→Int→Unit→Checker→Int→Option (Bool×Unit×Int)
structure eo(R:eC):Prop where
 f_scope_Walk__scope_checker_stmts_1:∀ (dp:Nat)(hp:HP)(k0:Key)(hk_k0:k0.dp<dp)(k1:Key)(hk_k1:k1.dp<dp)(k2:Key)(hk_k2:k2.dp<dp)(hn_k0_k1:k0≠k1)(hn_k0_k2:k0≠k2)(hn_k1_k2:k1≠k2)(hz:ax dp hp)(a0:(List Stmt))(a1:Int)(c0:Unit)(c1:Checker)(c2:Int)(r:(Bool×Unit×Int)),R.f_scope_Walk__scope_checker_stmts_1 a0 a1 c0 c1 c2=some r→eB dp hp k0 k1 k2 a0 a1 c0 c1 c2 r
section
variable (R:eC)(a0:(List Stmt))(a1:Int)(c1:Checker)(dp:Nat)(hp:HP)(k0:Key)(c0:Unit)
def cL(v0_11:Nat)(v0_k2_0:Int):Option ((Nat×Int)⊕(Int⊕(Nat×Bool×Int))):=
 if (v0_11:Int)<(a0.length:Int) then
  (a0[v0_11]?).bind fun (y2:Stmt)=>
  (kL y2 a1 () c1 v0_k2_0).bind fun (r4:(Bool×Unit×Int))=>
  if r4.1=true then
   if IntKind.i64.wrap (a1+1)=a1+1 then
    (R.f_scope_Walk__scope_checker_stmts_1 y2.Then (a1+1) () c1 r4.2.2).bind fun (r8:(Bool×Unit×Int))=>
    if r8.1=true then
     (R.f_scope_Walk__scope_checker_stmts_1 y2.Else (a1+1) () c1 r8.2.2).bind fun (r11:(Bool×Unit×Int))=>
     if r11.1=true then
      if IntKind.i64.wrap ((v0_11:Int)+1)=((v0_11+1:Nat):Int) then
       some (.inl (v0_11+1,r11.2.2))
      else none
     else
      some (.inr (.inl r11.2.2))
    else
     some (.inr (.inl r8.2.2))
   else none
  else
   some (.inr (.inl r4.2.2))
 else
  some (.inr (.inr (v0_11,decide ((v0_11:Int)<(a0.length:Int)),v0_k2_0)))
abbrev n6(dp:Nat)(hp:HP)(k0:Key)(k1:Key)(k2:Key)(a0:(List Stmt))(a1:Int)(c1:Checker)(v:(Nat×Int)):St:=⟨[(1,(I a1)),(2,(.f 139 [(.p k0 0),(.p k2 0)])),(9,(.l 92 (a0.map ay))),(10,(I (a0.length:Int))),(11,(I (v.1:Int)))],[],ab (ab (ab hp k0 [(.p k1 0)]) k1 (an c1)) k2 [(I v.2)]⟩
abbrev dX(dp:Nat)(hp:HP)(k0:Key)(k1:Key)(k2:Key)(a0:(List Stmt))(a1:Int)(c1:Checker)(x:(Int⊕(Nat×Bool×Int))):aI×St:=match x with | .inl z1=>(.ret,⟨[(6,(.b false))],[],ab (ab (ab hp k0 [(.p k1 0)]) k1 (an c1)) k2 [(I z1)]⟩) | .inr (z1,z2,z3)=>((.ex 0),⟨[(1,(I a1)),(2,(.f 139 [(.p k0 0),(.p k2 0)])),(9,(.l 92 (a0.map ay))),(10,(I (a0.length:Int))),(11,(I (z1:Int))),(12,(.b z2))],[],ab (ab (ab hp k0 [(.p k1 0)]) k1 (an c1)) k2 [(I z3)]⟩)
theorem nz(hR:eo R)(dp:Nat)(hp:HP)(k0:Key)(hk_k0:k0.dp<dp)(k1:Key)(hk_k1:k1.dp<dp)(k2:Key)(hk_k2:k2.dp<dp)(hn_k0_k1:k0≠k1)(hn_k0_k2:k0≠k2)(hn_k1_k2:k1≠k2)(hz:ax dp hp)(a0:(List Stmt))(a1:Int)(c1:Checker)(v0_11:Nat)(v0_k2_0:Int)(o:(Nat×Int)⊕(Int⊕(Nat×Bool×Int)))(h:cL R a0 a1 c1 v0_11 v0_k2_0=some o):bB ⟨dp,false⟩ GY (n6 dp hp k0 k1 k2 a0 a1 c1) (dX dp hp k0 k1 k2 a0 a1 c1) (v0_11,v0_k2_0) o:=
 bL (.or (bt<|ao (.n v0_11)<|.ex fun (y2:Stmt)=>ao (.v (.a (aw y2)))<|ew<|.ex fun (r4:(Bool×Unit×Int))=>ao (.v (.b r4.1))<|ao (.h (boxes dp [(8,(aw y2))] (ab (ab (ab hp k0 [(.p k1 0)]) k1 (an c1)) k2 [(I r4.2.2)])))<|ao (.bx [(8,(aw y2))])<|ao (.h (ab (ab (ab hp k0 [(.p k1 0)]) k1 (an c1)) k2 [(I r4.2.2)]))<|.or (tJ<|ao (.i (a1+1))<|gT<|.ex fun (r8:(Bool×Unit×Int))=>ao (.v (.b r8.1))<|ao (.h (boxes dp [(8,(aw y2))] (ab (ab (ab hp k0 [(.p k1 0)]) k1 (an c1)) k2 [(I r8.2.2)])))<|ao (.bx [(8,(aw y2))])<|ao (.h (ab (ab (ab hp k0 [(.p k1 0)]) k1 (an c1)) k2 [(I r8.2.2)]))<|vu<|.or (tJ<|ao (.i (a1+1))<|gT<|.ex fun (r11:(Bool×Unit×Int))=>ao (.v (.b r11.1))<|ao (.h (boxes dp [(8,(aw y2))] (ab (ab (ab hp k0 [(.p k1 0)]) k1 (an c1)) k2 [(I r11.2.2)])))<|ao (.bx [(8,(aw y2))])<|ao (.h (ab (ab (ab hp k0 [(.p k1 0)]) k1 (an c1)) k2 [(I r11.2.2)]))<|vu<|.or (bf<|ao (.i ((v0_11+1:Nat):Int))<|.nil) (bt<|.nil)) (U4<|.nil)) (U5<|.nil)) (bf<|.nil)) fun L=>bZ h (fun h1 h=>ai (decide_eq_true h1)<|ai (rI v0_11)<|bO h fun y2 h3 h=>ai (og ay h3 (je _))<|ai ((by simp [aw,AV.bb,AV.bM,AV.deep,AV.bP,aP hk_k0,Nat.le_of_lt hk_k0,aP hk_k1,Nat.le_of_lt hk_k1,aP hk_k2,Nat.le_of_lt hk_k2]):(([(14,(.a (aw y2))),(13,(.e (.a (aw y2)) 0)),(1,(I a1)),(2,(.f 139 [(.p k0 0),(.p k2 0)])),(9,(.l 92 (a0.map ay))),(10,(I (a0.length:Int))),(11,(I (v0_11:Int)))]:List (Nat×AV)).all (fun y=>y.2.bb ⟨dp,8⟩)&&([]:List (Nat×List AV)).all (fun y=>AV.bM ⟨dp,8⟩ y.2))=true)<|ai ff<|ai (rN dp)<|ai tt<|ai (rN dp)<|ai (rN dp)<|mO<|bO h fun r4 ek5 h=>have ek5:=U2 hk_k0 hk_k1 hk_k2 hn_k0_k1 hn_k0_k2 hn_k1_k2 (ui (dp+1) (boxes dp [(8,(aw y2))] (ab (ab (ab hp k0 [(.p k1 0)]) k1 (an c1)) k2 [(I v0_k2_0)])) k0 (Nat.lt_succ_of_lt hk_k0) k1 (Nat.lt_succ_of_lt hk_k1) k2 (Nat.lt_succ_of_lt hk_k2) (hn_k0_k1) (hn_k0_k2) (hn_k1_k2) (bX (aF hk_k2 (aF hk_k1 (aF hk_k0 (hz))))) y2 a1 () c1 v0_k2_0 _ ek5);ai ek5<|ai (oi ek5 (by kernel_rfl) (by kernel_rfl))<|ai (oj ek5 (aF hk_k2 (aF hk_k1 (aF hk_k0 (hz)))))<|bE h (fun h6 h=>cP (congrArg not h6)<|ai (rN dp)<|cP (congrArg not h6)<|aR h fun w7 h=>ai w7<|cP (congrArg not h6)<|mO<|bO h fun r8 ek9 h=>have ek9:=U2 hk_k0 hk_k1 hk_k2 hn_k0_k1 hn_k0_k2 hn_k1_k2 (hR.f_scope_Walk__scope_checker_stmts_1 (dp+1) (boxes dp [(8,(aw y2))] (ab (ab (ab hp k0 [(.p k1 0)]) k1 (an c1)) k2 [(I r4.2.2)])) k0 (Nat.lt_succ_of_lt hk_k0) k1 (Nat.lt_succ_of_lt hk_k1) k2 (Nat.lt_succ_of_lt hk_k2) (hn_k0_k1) (hn_k0_k2) (hn_k1_k2) (bX (aF hk_k2 (aF hk_k1 (aF hk_k0 (hz))))) y2.Then (a1+1) () c1 r4.2.2 _ ek9);ai ek9<|ai (oi ek9 (by kernel_rfl) (by kernel_rfl))<|ai (oj ek9 (aF hk_k2 (aF hk_k1 (aF hk_k0 (hz)))))<|pL (congrArg not h6)<|bE h (fun h10 h=>cP (congrArg not h10)<|ai (rN dp)<|cP (congrArg not h10)<|ai w7<|cP (congrArg not h10)<|mO<|bO h fun r11 ek12 h=>have ek12:=U2 hk_k0 hk_k1 hk_k2 hn_k0_k1 hn_k0_k2 hn_k1_k2 (hR.f_scope_Walk__scope_checker_stmts_1 (dp+1) (boxes dp [(8,(aw y2))] (ab (ab (ab hp k0 [(.p k1 0)]) k1 (an c1)) k2 [(I r8.2.2)])) k0 (Nat.lt_succ_of_lt hk_k0) k1 (Nat.lt_succ_of_lt hk_k1) k2 (Nat.lt_succ_of_lt hk_k2) (hn_k0_k1) (hn_k0_k2) (hn_k1_k2) (bX (aF hk_k2 (aF hk_k1 (aF hk_k0 (hz))))) y2.Else (a1+1) () c1 r8.2.2 _ ek12);ai ek12<|ai (oi ek12 (by kernel_rfl) (by kernel_rfl))<|ai (oj ek12 (aF hk_k2 (aF hk_k1 (aF hk_k0 (hz)))))<|pL (congrArg not h10)<|bE h (fun h13 h=>ai (congrArg not h13)<|aR h fun w14 h=>ai w14<|L h) (fun h13 h=>ai (congrArg not h13)<|L h)) (fun h10 h=>cP (congrArg not h10)<|cP (congrArg not h10)<|cP (congrArg not h10)<|pL (congrArg not h10)<|ai tt<|L h)) (fun h6 h=>cP (congrArg not h6)<|cP (congrArg not h6)<|cP (congrArg not h6)<|pL (congrArg not h6)<|ai ht<|ai ht<|ai ht<|ai ht<|ai ht<|ai ht<|ai ht<|bJ<|L h)) (fun h1 h=>ai (decide_eq_false h1)<|L h)
def cU(c0:Unit)(c1:Checker)(c2:Int):Option (Bool×Unit×Int):=
 (lp (fun v=>cL R a0 a1 c1 v.1 v.2) (0,c2)).bind fun (x1:(Int⊕(Nat×Bool×Int)))=>match x1 with
 | .inl ya_2=>
  some (false,(),ya_2)
 | .inr yb_2=>
  some (true,(),yb_2.2.2)
theorem m9(hR:eo R)(dp:Nat)(hp:HP)(k0:Key)(hk_k0:k0.dp<dp)(k1:Key)(hk_k1:k1.dp<dp)(k2:Key)(hk_k2:k2.dp<dp)(hn_k0_k1:k0≠k1)(hn_k0_k2:k0≠k2)(hn_k1_k2:k1≠k2)(hz:ax dp hp)(a0:(List Stmt))(a1:Int)(c0:Unit)(c1:Checker)(c2:Int)(r:(Bool×Unit×Int))(h:cU R a0 a1 c0 c1 c2=some r):eB dp hp k0 k1 k2 a0 a1 c0 c1 c2 r:=
 aJ UC (ao (.i (a0.length:Int))<|.or (.ex fun (ya_2:Int)=>ao (.cu (dX dp hp k0 k1 k2 a0 a1 c1 (.inl ya_2)))<|.nil) (.ex fun (yb_2:(Nat×Bool×Int))=>ao (.cu (dX dp hp k0 k1 k2 a0 a1 c1 (.inr yb_2)))<|.nil)) fun L=>ai (aG ay a0)<|ec h (gl (fun v=>nz R hR dp hp k0 hk_k0 k1 hk_k1 k2 hk_k2 hn_k0_k1 hn_k0_k2 hn_k1_k2 hz a0 a1 c1 v.1 v.2) (0,c2)) (fun ya_2 h=>L h) (fun yb_2 h=>L h)
def bQ:Nat→eC
 | 0=>⟨fun z0 z1 z2 z3 z4=>none⟩
 | n+1=>⟨cU (bQ n)⟩
theorem iI:∀ n,eo (bQ n)
 | 0=>⟨fun _ _ _ _ _ _ _ _ _ _ _ _ _ _ _ _ _ r h=>(by cases h)⟩
 | n+1=>⟨fun dp hp k0 hk_k0 k1 hk_k1 k2 hk_k2 hn_k0_k1 hn_k0_k2 hn_k1_k2 hz a0 a1 c0 c1 c2 r h=>m9 _ (iI n) dp hp k0 hk_k0 k1 hk_k1 k2 hk_k2 hn_k0_k1 hn_k0_k2 hn_k1_k2 hz a0 a1 c0 c1 c2 r h⟩
def eD(c1:Checker)(c2:Int):Option (Bool×Unit×Int):=ev fun n=>(bQ n).f_scope_Walk__scope_checker_stmts_1 a0 a1 c0 c1 c2
theorem nA(hk_k0:k0.dp<dp)(k1:Key)(hk_k1:k1.dp<dp)(k2:Key)(hk_k2:k2.dp<dp)(hn_k0_k1:k0≠k1)(hn_k0_k2:k0≠k2)(hn_k1_k2:k1≠k2)(hz:ax dp hp)(a0:(List Stmt))(a1:Int)(c0:Unit)(c1:Checker)(c2:Int)(r:(Bool×Unit×Int))(h:eD a0 a1 c0 c1 c2=some r):eB dp hp k0 k1 k2 a0 a1 c0 c1 c2 r:=by
 obtain ⟨n,hn⟩:=vc h
 exact (iI n).f_scope_Walk__scope_checker_stmts_1 dp hp k0 hk_k0 k1 hk_k1 k2 hk_k2 hn_k0_k1 hn_k0_k2 hn_k1_k2 hz a0 a1 c0 c1 c2 r hn
end
section
variable (dp:Nat)(hp:HP)(k0:Key)(c0:Checker)(a0:(List Stmt))
abbrev xM(dp:Nat)(hp:HP)(k0:Key)(c0:Checker)(a0:(List Stmt))(r:Int):aQ×HP:=(.ret (I r),ab hp k0 (an c0))
def ft:Option Int:=
 (eD a0 1 () c0 0).bind fun (r1:(Bool×Unit×Int))=>
 some r1.2.2
theorem oA(hk_k0:k0.dp<dp)(hz:ax dp hp)(c0:Checker)(a0:(List Stmt))(r:Int)(h:ft c0 a0=some r):call G Ω0 ⟨dp,false⟩ 95 [(.p k0 0),(.l 92 (a0.map ay))] (ab hp k0 (an c0))=some (xM dp hp k0 c0 a0 r):=
 aJ G95 (gT<|.ex fun (r1:(Bool×Unit×Int))=>ao (.v (.b r1.1))<|ao (.h (boxes dp [(2,[(.p k0 0)]),(5,[(I r1.2.2)])] (ab hp k0 (an c0))))<|ao (.bx [(2,[(.p k0 0)]),(5,[(I r1.2.2)])])<|ao (.h (ab hp k0 (an c0)))<|bt<|.nil) fun L=>ai ((by simp [AV.bb,AV.bM,AV.deep,AV.bP,aP hk_k0,Nat.le_of_lt hk_k0]):(((.p k0 0):AV).deep dp&&(([(0,(.p k0 0)),(1,(.l 92 (a0.map ay)))]:List (Nat×AV)).all (fun y=>y.2.bb ⟨dp,2⟩)&&([]:List (Nat×List AV)).all (fun y=>AV.bM ⟨dp,2⟩ y.2)))=true)<|ai ((by simp [AV.bb,AV.bM,AV.deep,AV.bP,aP hk_k0,Nat.le_of_lt hk_k0]):(([(1,(.l 92 (a0.map ay))),(2,(.p ⟨dp,2⟩ 0))]:List (Nat×AV)).all (fun y=>y.2.bb ⟨dp,5⟩)&&([(2,[(.p k0 0)])]:List (Nat×List AV)).all (fun y=>AV.bM ⟨dp,5⟩ y.2))=true)<|ai ff<|ai (rN dp)<|ai tt<|ai (rN dp)<|ai ff<|ai ((by simp [AV.deep,AV.bP,Nat.le_of_lt hk_k0]):([(2,[(.p k0 0)]),(5,[(I 0)])]:List (Nat×List AV)).all (fun y=>AV.bP dp y.2)=true)<|bO h fun r1 ek2 h=>have ek2:call G Ω0 ⟨dp+1,false⟩ 137 [(.l 92 (a0.map ay)),(I 1),(.f 139 [(.p ⟨dp,2⟩ 0),(.p ⟨dp,5⟩ 0)])] (boxes dp [(2,[(.p k0 0)]),(5,[(I 0)])] (ab hp k0 (an c0)))=some (.ret (.b r1.1),boxes dp [(2,[(.p k0 0)]),(5,[(I r1.2.2)])] (ab hp k0 (an c0))):=jP (ij (ij (dN (bx1:=[(2,[(.p k0 0)]),(5,[(I 0)])]) (by kernel_rfl) (by kernel_rfl)) (dA (hp1:=ab hp k0 (an c0)) (Nat.ne_of_lt hk_k0) (dI ..))) (dN (bx1:=[(2,[(.p k0 0)]),(5,[(I 0)])]) (by kernel_rfl) (by kernel_rfl))) (ij (ij (dN (bx1:=[(2,[(.p k0 0)]),(5,[(I 0)])]) (by kernel_rfl) (by kernel_rfl)) (dA (hp1:=ab hp k0 (an c0)) (Nat.ne_of_lt hk_k0) (dI ..))) (dN (bx1:=[(2,[(.p k0 0)]),(5,[(I r1.2.2)])]) (by kernel_rfl) (by kernel_rfl))) (nA (dp+1) (boxes dp [(2,[(.p k0 0)]),(5,[(I 0)])] (ab hp k0 (an c0))) ⟨dp,2⟩ (Nat.lt_succ_self dp) k0 (Nat.lt_succ_of_lt hk_k0) ⟨dp,5⟩ (Nat.lt_succ_self dp) (xE hk_k0) (U0 (by decide)) (aP hk_k0) (bX (aF hk_k0 (hz))) a0 1 () c0 0 _ ek2);ai ek2<|ai (oi ek2 (by kernel_rfl) (by kernel_rfl))<|ai (oj ek2 (aF hk_k0 (hz)))<|ai (rN dp)<|L h
end
section
variable (c0:Checker)(a0:Func)(dp:Nat)(hp:HP)(k0:Key)
def jB(v0_15:Nat):Option (Nat⊕(Unit⊕(Unit⊕(Nat×Bool)))):=
 if (v0_15:Int)<(a0.Params.length:Int) then
  (a0.Params[v0_15]?).bind fun (y3:Int)=>
  if y3<0 then
   some (.inr (.inl ()))
  else
   if (c0.p.Vars.length:Int)≤y3 then
    some (.inr (.inl ()))
   else
    if v0_15≤a0.Params.length then
     (iU ((a0.Params.take v0_15).drop 0) y3).bind fun (r8:Bool)=>
     if r8=true then
      some (.inr (.inr (.inl ())))
     else
      if IntKind.i64.wrap ((v0_15:Int)+1)=((v0_15+1:Nat):Int) then
       some (.inl (v0_15+1))
      else none
    else none
 else
  some (.inr (.inr (.inr (v0_15,decide ((v0_15:Int)<(a0.Params.length:Int))))))
abbrev yJ(c0:Checker)(a0:Func)(v:Nat):St:=⟨[(0,(.p k0 0)),(3,(.p ⟨dp,3⟩ 0)),(13,(.l 3 (a0.Params.map (I)))),(14,(I (a0.Params.length:Int))),(15,(I (v:Int)))],[(3,(dB a0))],ab hp k0 (an c0)⟩
abbrev jC(c0:Checker)(a0:Func)(x:(Unit⊕(Unit⊕(Nat×Bool)))):aI×St:=match x with | .inl ()=>(.ret,⟨[(4,(I 5))],[],ab hp k0 (an c0)⟩) | .inr (.inl ())=>(.ret,⟨[(4,(I 6))],[],ab hp k0 (an c0)⟩) | .inr (.inr (z1,z2))=>((.ex 0),⟨[(0,(.p k0 0)),(3,(.p ⟨dp,3⟩ 0)),(13,(.l 3 (a0.Params.map (I)))),(14,(I (a0.Params.length:Int))),(15,(I (z1:Int))),(16,(.b z2))],[(3,(dB a0))],ab hp k0 (an c0)⟩)
theorem xO(hk_k0:k0.dp<dp)(hz:ax dp hp)(c0:Checker)(a0:Func)(v0_15:Nat)(o:Nat⊕(Unit⊕(Unit⊕(Nat×Bool))))(h:jB c0 a0 v0_15=some o):bB ⟨dp,false⟩ QD (yJ dp hp k0 c0 a0) (jC dp hp k0 c0 a0) v0_15 o:=
 bL (.or (bt<|ao (.n v0_15)<|xI fun y3=>.or (bf<|bf<|bf<|bf<|bf<|bf<|bf<|bf<|bt<|bt<|.nil) (MO<|ao (.l (an c0))<|bt<|ao (.i (c0.p.Vars.length:Int))<|vu<|oN (bt<|ao (.n v0_15)<|ao (.l (((a0.Params.take v0_15).drop 0).map (I)))<|xB fun r8=>oN (ao (.i ((v0_15+1:Nat):Int))<|.nil)))) (bf<|.nil)) fun L=>bZ h (fun h2 h=>ai (decide_eq_true h2)<|ai (rI v0_15)<|bO h fun y3 h4 h=>ai (aU (I) h4)<|bZ h (fun h5 h=>cP (decide_eq_true h5)<|cP (decide_eq_true h5)<|cP (decide_eq_true h5)<|cP (decide_eq_true h5)<|ai (decide_eq_true h5)<|ai tt<|L h) (fun h5 h=>cP (decide_eq_false h5)<|cP (decide_eq_false h5)<|cP (decide_eq_false h5)<|ai (Nat.ne_of_lt hk_k0)<|ai (cD hp k0 (an c0))<|ai (g0 (decide_eq_false h5))<|ai (aG aW c0.p.Vars)<|pL (decide_eq_false h5)<|bZ h (fun h6 h=>ai (decide_eq_true h6)<|L h) (fun h6 h=>ai (decide_eq_false h6)<|ai (rN dp)<|ai (rI v0_15)<|ai ((by decide):3≠0)<|ai ((fQ (I) (n:=1) (fun _=>rfl) a0.Params):(a0.Params.map (I)).all (fun e=>e.nc==1)=true)<|ai (Nat.zero_le _:0≤v0_15)<|aR h fun h7 h=>ai ((by rw [List.length_map];exact h7):v0_15≤(a0.Params.map (I)).length)<|ai (F3 (I) a0.Params 0 v0_15)<|aT h (vz ((a0.Params.take v0_15).drop 0) y3) fun r8 h=>bE h (fun h10 h=>ai h10<|L h) (fun h10 h=>ai h10<|aR h fun w11 h=>ai w11<|L h)))) (fun h2 h=>ai (decide_eq_false h2)<|L h)
abbrev Ae(dp:Nat)(hp:HP)(k0:Key)(c0:Checker)(a0:Func)(r:Int):aQ×HP:=(.ret (I r),ab hp k0 (an c0))
def lh:Option Int:=
 if 4<(a0.Params.length:Int) then
  some 2
 else
  (lp (fun v=>jB c0 a0 v) 0).bind fun (x2:(Unit⊕(Unit⊕(Nat×Bool))))=>match x2 with
  | .inl ya_3=>
   some 5
  | .inr (.inl yb_3)=>
   some 6
  | .inr (.inr yc_3)=>
   (ft c0 a0.Body).bind fun (r5:Int)=>
   if (r5 !=0)=true then
    some r5
   else
    (ka a0.Result (c0.p.Vars.length:Int)).bind fun (r8:Int)=>
    some r8
theorem xP(hk_k0:k0.dp<dp)(hz:ax dp hp)(c0:Checker)(a0:Func)(r:Int)(h:lh c0 a0=some r):call G Ω0 ⟨dp,false⟩ 94 [(.p k0 0),(.a (dB a0))] (ab hp k0 (an c0))=some (Ae dp hp k0 c0 a0 r):=
 aJ G94 (bt<|ao (.i (a0.Params.length:Int))<|oN (bt<|ao (.i (a0.Params.length:Int))<|.or (.ex fun (ya_3:Unit)=>ao (.cu (jC dp hp k0 c0 a0 (.inl ya_3)))<|.nil) (.or (.ex fun (yb_3:Unit)=>ao (.cu (jC dp hp k0 c0 a0 (.inr (.inl yb_3))))<|.nil) (.ex fun (yc_3:(Nat×Bool))=>ao (.cu (jC dp hp k0 c0 a0 (.inr (.inr yc_3))))<|bt<|xI fun r5=>ao (.h (boxes dp [(3,(dB a0))] (ab hp k0 (an c0))))<|ao (.bx [(3,(dB a0))])<|ao (.h (ab hp k0 (an c0)))<|oN (vu<|ao (.l (an c0))<|ao (.i (c0.p.Vars.length:Int))<|xI fun r8=>.nil))))) fun L=>ai ((by simp [dB,AV.bb,AV.bM,AV.deep,AV.bP,aP hk_k0,Nat.le_of_lt hk_k0]):(((.a (dB a0)):AV).deep dp&&(([(0,(.p k0 0)),(1,(.a (dB a0)))]:List (Nat×AV)).all (fun y=>y.2.bb ⟨dp,3⟩)&&([]:List (Nat×List AV)).all (fun y=>AV.bM ⟨dp,3⟩ y.2)))=true)<|ai (rN dp)<|ai (aG (I) a0.Params)<|bZ h (fun h1 h=>ai (decide_eq_true h1)<|L h) (fun h1 h=>ai (decide_eq_false h1)<|ai (rN dp)<|ai (aG (I) a0.Params)<|QI h (gl (xO dp hp k0 hk_k0 hz c0 a0) 0) (fun ya_3 h=>L h) (fun yb_3 h=>L h) (fun yc_3 h=>ai (rN dp)<|mO<|bO h fun r5 ek6 h=>have ek6:=cO hk_k0 (oA (dp+1) (boxes dp [(3,(dB a0))] (ab hp k0 (an c0))) k0 (Nat.lt_succ_of_lt hk_k0) (bX (aF hk_k0 (hz))) c0 a0.Body _ ek6);ai ek6<|ai (oi ek6 (by kernel_rfl) (by kernel_rfl))<|ai (oj ek6 (aF hk_k0 (hz)))<|bE h (fun h7 h=>ai h7<|L h) (fun h7 h=>ai h7<|bJ<|ai (rN dp)<|bJ<|bJ<|ai tt<|ai (Nat.ne_of_lt hk_k0)<|ai (cD hp k0 (an c0))<|ai tt<|ai (aG aW c0.p.Vars)<|ai tt<|aT h (rX a0.Result (c0.p.Vars.length:Int)) fun r8 h=>L h)))
end
section
variable (a0:Program)
def lj(v0_22:Nat)(v0_18_8:Nat):Option ((Nat×Nat)⊕(Int⊕(Nat×Bool×Nat))):=
 if (v0_22:Int)<(a0.Funcs.length:Int) then
  (a0.Funcs[v0_22]?).bind fun (y8:Func)=>
  (lh (⟨a0,(v0_22:Int)⟩:Checker) y8).bind fun (r10:Int)=>
  if (r10 !=0)=true then
   some (.inr (.inl r10))
  else
   if IntKind.i64.wrap ((v0_22:Int)+1)=((v0_22+1:Nat):Int) then
    some (.inl (v0_22+1,v0_22))
   else none
 else
  some (.inr (.inr (v0_22,decide ((v0_22:Int)<(a0.Funcs.length:Int)),v0_18_8)))
abbrev Dr(v:(Nat×Nat)):St:=⟨[(1,(.p ⟨0,1⟩ 0)),(4,(.p ⟨0,18⟩ 0)),(20,(.l 101 (a0.Funcs.map aS))),(21,(I (a0.Funcs.length:Int))),(22,(I (v.1:Int)))],[(1,(ar a0)),(18,[(I a0.aa.Many),(.l 166 (a0.aa.Grants.map aB)),(.l 3 (a0.Speak.map (I))),(.l 81 (a0.Ins.map ah)),(.l 81 (a0.Outs.map ah)),(.l 83 (a0.Vars.map aW)),(.l 101 (a0.Funcs.map aS)),(.l 92 (a0.Main.map ay)),(I (v.2:Int))])],H0⟩
abbrev rY(x:(Int⊕(Nat×Bool×Nat))):aI×St:=match x with | .inl z1=>(.ret,⟨[(2,(I z1))],[],H0⟩) | .inr (z1,z2,z3)=>((.ex 0),⟨[(1,(.p ⟨0,1⟩ 0)),(4,(.p ⟨0,18⟩ 0)),(20,(.l 101 (a0.Funcs.map aS))),(21,(I (a0.Funcs.length:Int))),(22,(I (z1:Int))),(23,(.b z2))],[(1,(ar a0)),(18,[(I a0.aa.Many),(.l 166 (a0.aa.Grants.map aB)),(.l 3 (a0.Speak.map (I))),(.l 81 (a0.Ins.map ah)),(.l 81 (a0.Outs.map ah)),(.l 83 (a0.Vars.map aW)),(.l 101 (a0.Funcs.map aS)),(.l 92 (a0.Main.map ay)),(I (z3:Int))])],H0⟩)
theorem Ca(v0_22:Nat)(v0_18_8:Nat)(o:(Nat×Nat)⊕(Int⊕(Nat×Bool×Nat)))(h:lj a0 v0_22 v0_18_8=some o):bB E0 Qj (Dr a0) (rY a0) (v0_22,v0_18_8) o:=
 bL (.or (bt<|ao (.n v0_22)<|.ex fun (y8:Func)=>ao (.v (.a (dB y8)))<|tJ<|xI fun r10=>ao (.h (boxes 0 [(1,(ar a0)),(6,(dB y8)),(18,[(I a0.aa.Many),(.l 166 (a0.aa.Grants.map aB)),(.l 3 (a0.Speak.map (I))),(.l 81 (a0.Ins.map ah)),(.l 81 (a0.Outs.map ah)),(.l 83 (a0.Vars.map aW)),(.l 101 (a0.Funcs.map aS)),(.l 92 (a0.Main.map ay)),(I (v0_22:Int))])] H0))<|ao (.bx [(1,(ar a0)),(6,(dB y8)),(18,[(I a0.aa.Many),(.l 166 (a0.aa.Grants.map aB)),(.l 3 (a0.Speak.map (I))),(.l 81 (a0.Ins.map ah)),(.l 81 (a0.Outs.map ah)),(.l 83 (a0.Vars.map aW)),(.l 101 (a0.Funcs.map aS)),(.l 92 (a0.Main.map ay)),(I (v0_22:Int))])])<|ao (.h (H0))<|oN (ao (.i ((v0_22+1:Nat):Int))<|.nil)) (bf<|.nil)) fun L=>bZ h (fun h7 h=>ai (decide_eq_true h7)<|ai (rI v0_22)<|bO h fun y8 h9 h=>ai (aU aS h9)<|ai tt<|jd<|dO<|jd<|dO<|ai (rfl:Z0)<|mO<|bO h fun r10 ek11 h=>have ek11:call G Ω0 ⟨0+1,false⟩ 94 [(.p ⟨0,18⟩ 0),(.a (dB y8))] (boxes 0 [(1,(ar a0)),(6,(dB y8)),(18,[(I a0.aa.Many),(.l 166 (a0.aa.Grants.map aB)),(.l 3 (a0.Speak.map (I))),(.l 81 (a0.Ins.map ah)),(.l 81 (a0.Outs.map ah)),(.l 83 (a0.Vars.map aW)),(.l 101 (a0.Funcs.map aS)),(.l 92 (a0.Main.map ay)),(I (v0_22:Int))])] H0)=some (.ret (I r10),boxes 0 [(1,(ar a0)),(6,(dB y8)),(18,[(I a0.aa.Many),(.l 166 (a0.aa.Grants.map aB)),(.l 3 (a0.Speak.map (I))),(.l 81 (a0.Ins.map ah)),(.l 81 (a0.Outs.map ah)),(.l 83 (a0.Vars.map aW)),(.l 101 (a0.Funcs.map aS)),(.l 92 (a0.Main.map ay)),(I (v0_22:Int))])] H0):=jP (dN (bx1:=[(1,(ar a0)),(6,(dB y8)),(18,[(I a0.aa.Many),(.l 166 (a0.aa.Grants.map aB)),(.l 3 (a0.Speak.map (I))),(.l 81 (a0.Ins.map ah)),(.l 81 (a0.Outs.map ah)),(.l 83 (a0.Vars.map aW)),(.l 101 (a0.Funcs.map aS)),(.l 92 (a0.Main.map ay)),(I (v0_22:Int))])]) (by kernel_rfl) (by kernel_rfl)) (dN (bx1:=[(1,(ar a0)),(6,(dB y8)),(18,[(I a0.aa.Many),(.l 166 (a0.aa.Grants.map aB)),(.l 3 (a0.Speak.map (I))),(.l 81 (a0.Ins.map ah)),(.l 81 (a0.Outs.map ah)),(.l 83 (a0.Vars.map aW)),(.l 101 (a0.Funcs.map aS)),(.l 92 (a0.Main.map ay)),(I (v0_22:Int))])]) (by kernel_rfl) (by kernel_rfl)) (xP (0+1) (boxes 0 [(1,(ar a0)),(6,(dB y8)),(18,[(I a0.aa.Many),(.l 166 (a0.aa.Grants.map aB)),(.l 3 (a0.Speak.map (I))),(.l 81 (a0.Ins.map ah)),(.l 81 (a0.Outs.map ah)),(.l 83 (a0.Vars.map aW)),(.l 101 (a0.Funcs.map aS)),(.l 92 (a0.Main.map ay)),(I (v0_22:Int))])] H0) ⟨0,18⟩ (Nat.lt_succ_self 0) (bX (oh 0)) (⟨a0,(v0_22:Int)⟩:Checker) y8 _ ek11);ai ek11<|ai (oi ek11 (by kernel_rfl) (by kernel_rfl))<|ai (oj ek11 (oh 0))<|bE h (fun h12 h=>ai h12<|L h) (fun h12 h=>ai h12<|aR h fun w13 h=>ai w13<|L h)) (fun h7 h=>ai (decide_eq_false h7)<|L h)
abbrev F9(a0:Program)(r:Int):aQ×HP:=(.ret (I r),H0)
def kS:Option Int:=
 (rU a0).bind fun (r1:Int)=>
 if (r1 !=0)=true then
  some r1
 else
  (tm a0).bind fun (r4:Bool)=>
  if r4=true then
   (lp (fun v=>lj a0 v.1 v.2) (0,0)).bind fun (x7:(Int⊕(Nat×Bool×Nat)))=>match x7 with
   | .inl ya_8=>
    some ya_8
   | .inr yb_8=>
    (ft (⟨a0,(a0.Funcs.length:Int)⟩:Checker) a0.Main).bind fun (r10:Int)=>
    some r10
  else
   some 2
theorem vH(r:Int)(h:kS a0=some r):call G Ω0 E0 36 [(.a (ar a0))] H0=some (F9 a0 r):=
 aJ G36 (bt<|xI fun r1=>oN (bt<|xB fun r4=>.or (bf<|bt<|bt<|ao (.i (a0.Funcs.length:Int))<|.or (.ex fun (ya_8:Int)=>ao (.cu (rY a0 (.inl ya_8)))<|.nil) (.ex fun (yb_8:(Nat×Bool×Nat))=>ao (.cu (rY a0 (.inr yb_8)))<|bt<|ao (.i (a0.Funcs.length:Int))<|ew<|xI fun r10=>ao (.h (boxes 0 [(1,(ar a0)),(18,[(I a0.aa.Many),(.l 166 (a0.aa.Grants.map aB)),(.l 3 (a0.Speak.map (I))),(.l 81 (a0.Ins.map ah)),(.l 81 (a0.Outs.map ah)),(.l 83 (a0.Vars.map aW)),(.l 101 (a0.Funcs.map aS)),(.l 92 (a0.Main.map ay)),(I (a0.Funcs.length:Int))])] H0))<|ao (.bx [(1,(ar a0)),(18,[(I a0.aa.Many),(.l 166 (a0.aa.Grants.map aB)),(.l 3 (a0.Speak.map (I))),(.l 81 (a0.Ins.map ah)),(.l 81 (a0.Outs.map ah)),(.l 83 (a0.Vars.map aW)),(.l 101 (a0.Funcs.map aS)),(.l 92 (a0.Main.map ay)),(I (a0.Funcs.length:Int))])])<|ao (.h (H0))<|.nil)) (bt<|.nil))) fun L=>dO<|aT h (Dk a0) fun r1 h=>bE h (fun h3 h=>ai h3<|L h) (fun h3 h=>uA h3<|aT h (Es a0) fun r4 h=>bE h (fun h6 h=>ai (congrArg not h6)<|ai (rfl:Z0)<|dO<|ai (aG aS a0.Funcs)<|ec h (gl (fun v=>Ca a0 v.1 v.2) (0,0)) (fun ya_8 h=>L h) (fun yb_8 h=>ai (rfl:Z0)<|ai (aG aS a0.Funcs)<|jd<|dO<|ai (rfl:Z0)<|mO<|bO h fun r10 ek11 h=>have ek11:call G Ω0 ⟨0+1,false⟩ 95 [(.p ⟨0,18⟩ 0),(.l 92 (a0.Main.map ay))] (boxes 0 [(1,(ar a0)),(18,[(I a0.aa.Many),(.l 166 (a0.aa.Grants.map aB)),(.l 3 (a0.Speak.map (I))),(.l 81 (a0.Ins.map ah)),(.l 81 (a0.Outs.map ah)),(.l 83 (a0.Vars.map aW)),(.l 101 (a0.Funcs.map aS)),(.l 92 (a0.Main.map ay)),(I (a0.Funcs.length:Int))])] H0)=some (.ret (I r10),boxes 0 [(1,(ar a0)),(18,[(I a0.aa.Many),(.l 166 (a0.aa.Grants.map aB)),(.l 3 (a0.Speak.map (I))),(.l 81 (a0.Ins.map ah)),(.l 81 (a0.Outs.map ah)),(.l 83 (a0.Vars.map aW)),(.l 101 (a0.Funcs.map aS)),(.l 92 (a0.Main.map ay)),(I (a0.Funcs.length:Int))])] H0):=jP (dN (bx1:=[(1,(ar a0)),(18,[(I a0.aa.Many),(.l 166 (a0.aa.Grants.map aB)),(.l 3 (a0.Speak.map (I))),(.l 81 (a0.Ins.map ah)),(.l 81 (a0.Outs.map ah)),(.l 83 (a0.Vars.map aW)),(.l 101 (a0.Funcs.map aS)),(.l 92 (a0.Main.map ay)),(I (a0.Funcs.length:Int))])]) (by kernel_rfl) (by kernel_rfl)) (dN (bx1:=[(1,(ar a0)),(18,[(I a0.aa.Many),(.l 166 (a0.aa.Grants.map aB)),(.l 3 (a0.Speak.map (I))),(.l 81 (a0.Ins.map ah)),(.l 81 (a0.Outs.map ah)),(.l 83 (a0.Vars.map aW)),(.l 101 (a0.Funcs.map aS)),(.l 92 (a0.Main.map ay)),(I (a0.Funcs.length:Int))])]) (by kernel_rfl) (by kernel_rfl)) (oA (0+1) (boxes 0 [(1,(ar a0)),(18,[(I a0.aa.Many),(.l 166 (a0.aa.Grants.map aB)),(.l 3 (a0.Speak.map (I))),(.l 81 (a0.Ins.map ah)),(.l 81 (a0.Outs.map ah)),(.l 83 (a0.Vars.map aW)),(.l 101 (a0.Funcs.map aS)),(.l 92 (a0.Main.map ay)),(I (a0.Funcs.length:Int))])] H0) ⟨0,18⟩ (Nat.lt_succ_self 0) (bX (oh 0)) (⟨a0,(a0.Funcs.length:Int)⟩:Checker) a0.Main _ ek11);ai ek11<|ai (oi ek11 (by kernel_rfl) (by kernel_rfl))<|ai (oj ek11 (oh 0))<|L h)) (fun h6 h=>ai (congrArg not h6)<|L h))
end
section
variable (a0:(List Bool))(a1:(List Bool))
def kT(v0_5:(List Bool))(v0_10:Nat):Option (((List Bool)×Nat)⊕((List Bool)×Nat×Bool)):=
 if (v0_10:Int)<(a0.length:Int) then
  (a0[v0_10]?).bind fun (y2:Bool)=>
  if y2=true then
   (a1[v0_10]?).bind fun (y5:Bool)=>
   if v0_5.length + [y5].length≤1000000000 then
    if IntKind.i64.wrap ((v0_10:Int)+1)=((v0_10+1:Nat):Int) then
     some (.inl (v0_5++[y5],v0_10+1))
    else none
   else none
  else
   if v0_5.length + [false].length≤1000000000 then
    if IntKind.i64.wrap ((v0_10:Int)+1)=((v0_10+1:Nat):Int) then
     some (.inl (v0_5++[false],v0_10+1))
    else none
   else none
 else
  some (.inr (v0_5,v0_10,decide ((v0_10:Int)<(a0.length:Int))))
abbrev Ga(v:((List Bool)×Nat)):St:=⟨[(1,(.l 4 (a1.map AV.b))),(5,(.o 4 (v.1.map AV.b))),(8,(.l 4 (a0.map AV.b))),(9,(I (a0.length:Int))),(10,(I (v.2:Int)))],[],H0⟩
abbrev zx(x:((List Bool)×Nat×Bool)):aI×St:=((.ex 0),⟨[(1,(.l 4 (a1.map AV.b))),(5,(.o 4 (x.1.map AV.b))),(8,(.l 4 (a0.map AV.b))),(9,(I (a0.length:Int))),(10,(I (x.2.1:Int))),(11,(.b x.2.2))],[],H0⟩)
theorem Eu(v0_5:(List Bool))(v0_10:Nat)(o:((List Bool)×Nat)⊕((List Bool)×Nat×Bool))(h:kT a0 a1 v0_5 v0_10=some o):bB E0 Mj (Ga a0 a1) (zx a0 a1) (v0_5,v0_10) o:=
 bL (.or (bt<|ao (.n v0_10)<|xB fun y2=>.or (ew<|ao (.n v0_10)<|xB fun y5=>gT<|ao (.l ([y5].map AV.b))<|ao (.l ((v0_5++[y5]).map AV.b))<|ao (.i ((v0_10+1:Nat):Int))<|.nil) (bf<|bf<|bf<|bf<|bf<|ao (.l ([false].map AV.b))<|ao (.l ((v0_5++[false]).map AV.b))<|ao (.i ((v0_10+1:Nat):Int))<|.nil)) (bf<|.nil)) fun L=>bZ h (fun h1 h=>ai (decide_eq_true h1)<|ai (rI v0_10)<|bO h fun y2 h3 h=>ai (aU AV.b h3)<|bE h (fun h4 h=>JW h4<|ai (rI v0_10)<|bO h fun y5 h6 h=>ai (aU AV.b h6)<|sj h4<|ai (rfl:[(.b y5)]=[y5].map AV.b)<|ai ff<|aR h fun h7 h=>ai ((fQ AV.b (n:=1) (fun _=>rfl) [y5]):([y5].map AV.b).all (fun e=>e.nc==1)=true)<|ai ((kE h7 (by decide)):((v0_5.map AV.b).length+([y5].map AV.b).length)*1≤140737488355328)<|ai ((kG h7):(v0_5.map AV.b).length+([y5].map AV.b).length≤maxLen)<|ai (List.map_append.symm:v0_5.map AV.b++[y5].map AV.b=(v0_5++[y5]).map AV.b)<|aR h fun w8 h=>ai w8<|L h) (fun h4 h=>bG h4<|bG h4<|ai h4<|ai (rfl:[(.b false)]=[false].map AV.b)<|ai ff<|aR h fun h5 h=>ai ((fQ AV.b (n:=1) (fun _=>rfl) [false]):([false].map AV.b).all (fun e=>e.nc==1)=true)<|ai ((kE h5 (by decide)):((v0_5.map AV.b).length+([false].map AV.b).length)*1≤140737488355328)<|ai ((kG h5):(v0_5.map AV.b).length+([false].map AV.b).length≤maxLen)<|ai (List.map_append.symm:v0_5.map AV.b++[false].map AV.b=(v0_5++[false]).map AV.b)<|aR h fun w6 h=>ai w6<|L h)) (fun h1 h=>ai (decide_eq_false h1)<|L h)
abbrev Jg(a0:(List Bool))(a1:(List Bool))(r:(List Bool)):aQ×HP:=(.ret (.l 4 (r.map AV.b)),H0)
def tn:Option (List Bool):=
 (lp (fun v=>kT a0 a1 v.1 v.2) (([]:List Bool),0)).bind fun (x1:((List Bool)×Nat×Bool))=>
 some x1.1
theorem Ev(r:(List Bool))(h:tn a0 a1=some r):call G Ω0 E0 127 [(.l 4 (a0.map AV.b)),(.l 4 (a1.map AV.b))] H0=some (Jg a0 a1 r):=
 aJ abM (ao (.i (a0.length:Int))<|.ex fun (x1:((List Bool)×Nat×Bool))=>ao (.cu (zx a0 a1 x1))<|.nil) fun L=>ai (aG AV.b a0)<|aT h (gl (fun v=>Eu a0 a1 v.1 v.2) (([]:List Bool),0)) fun x1 h=>L h
def mj(v0_5:(List Bool))(v0_10:Nat):Option (((List Bool)×Nat)⊕((List Bool)×Nat×Bool)):=
 if (v0_10:Int)<(a0.length:Int) then
  (a0[v0_10]?).bind fun (y2:Bool)=>
  if y2=true then
   if v0_5.length + [true].length≤1000000000 then
    if IntKind.i64.wrap ((v0_10:Int)+1)=((v0_10+1:Nat):Int) then
     some (.inl (v0_5++[true],v0_10+1))
    else none
   else none
  else
   (a1[v0_10]?).bind fun (y5:Bool)=>
   if v0_5.length + [y5].length≤1000000000 then
    if IntKind.i64.wrap ((v0_10:Int)+1)=((v0_10+1:Nat):Int) then
     some (.inl (v0_5++[y5],v0_10+1))
    else none
   else none
 else
  some (.inr (v0_5,v0_10,decide ((v0_10:Int)<(a0.length:Int))))
abbrev Hu(v:((List Bool)×Nat)):St:=⟨[(1,(.l 4 (a1.map AV.b))),(5,(.o 4 (v.1.map AV.b))),(8,(.l 4 (a0.map AV.b))),(9,(I (a0.length:Int))),(10,(I (v.2:Int)))],[],H0⟩
abbrev Af(x:((List Bool)×Nat×Bool)):aI×St:=((.ex 0),⟨[(1,(.l 4 (a1.map AV.b))),(5,(.o 4 (x.1.map AV.b))),(8,(.l 4 (a0.map AV.b))),(9,(I (a0.length:Int))),(10,(I (x.2.1:Int))),(11,(.b x.2.2))],[],H0⟩)
theorem Gb(v0_5:(List Bool))(v0_10:Nat)(o:((List Bool)×Nat)⊕((List Bool)×Nat×Bool))(h:mj a0 a1 v0_5 v0_10=some o):bB E0 Mi (Hu a0 a1) (Af a0 a1) (v0_5,v0_10) o:=
 bL (.or (bt<|ao (.n v0_10)<|xB fun y2=>.or (Fs<|ao (.l ([true].map AV.b))<|ao (.l ((v0_5++[true]).map AV.b))<|ao (.i ((v0_10+1:Nat):Int))<|.nil) (ew<|ao (.n v0_10)<|xB fun y5=>vu<|ao (.l ([y5].map AV.b))<|ao (.l ((v0_5++[y5]).map AV.b))<|ao (.i ((v0_10+1:Nat):Int))<|.nil)) (bf<|.nil)) fun L=>bZ h (fun h1 h=>ai (decide_eq_true h1)<|ai (rI v0_10)<|bO h fun y2 h3 h=>ai (aU AV.b h3)<|bE h (fun h4 h=>Fp h4<|ai (rfl:[(.b true)]=[true].map AV.b)<|ai ff<|aR h fun h5 h=>ai ((fQ AV.b (n:=1) (fun _=>rfl) [true]):([true].map AV.b).all (fun e=>e.nc==1)=true)<|ai ((kE h5 (by decide)):((v0_5.map AV.b).length+([true].map AV.b).length)*1≤140737488355328)<|ai ((kG h5):(v0_5.map AV.b).length+([true].map AV.b).length≤maxLen)<|ai (List.map_append.symm:v0_5.map AV.b++[true].map AV.b=(v0_5++[true]).map AV.b)<|aR h fun w6 h=>ai w6<|L h) (fun h4 h=>Fq h4<|ai (rI v0_10)<|bO h fun y5 h6 h=>ai (aU AV.b h6)<|pL h4<|ai (rfl:[(.b y5)]=[y5].map AV.b)<|ai ff<|aR h fun h7 h=>ai ((fQ AV.b (n:=1) (fun _=>rfl) [y5]):([y5].map AV.b).all (fun e=>e.nc==1)=true)<|ai ((kE h7 (by decide)):((v0_5.map AV.b).length+([y5].map AV.b).length)*1≤140737488355328)<|ai ((kG h7):(v0_5.map AV.b).length+([y5].map AV.b).length≤maxLen)<|ai (List.map_append.symm:v0_5.map AV.b++[y5].map AV.b=(v0_5++[y5]).map AV.b)<|aR h fun w8 h=>ai w8<|L h)) (fun h1 h=>ai (decide_eq_false h1)<|L h)
abbrev Lr(a0:(List Bool))(a1:(List Bool))(r:(List Bool)):aQ×HP:=(.ret (.l 4 (r.map AV.b)),H0)
def uN:Option (List Bool):=
 (lp (fun v=>mj a0 a1 v.1 v.2) (([]:List Bool),0)).bind fun (x1:((List Bool)×Nat×Bool))=>
 some x1.1
theorem Gc(r:(List Bool))(h:uN a0 a1=some r):call G Ω0 E0 126 [(.l 4 (a0.map AV.b)),(.l 4 (a1.map AV.b))] H0=some (Lr a0 a1 r):=
 aJ abL (ao (.i (a0.length:Int))<|.ex fun (x1:((List Bool)×Nat×Bool))=>ao (.cu (Af a0 a1 x1))<|.nil) fun L=>ai (aG AV.b a0)<|aT h (gl (fun v=>Gb a0 a1 v.1 v.2) (([]:List Bool),0)) fun x1 h=>L h
end
section
variable (a0:Level)(a1:Level)
abbrev Hv(a0:Level)(a1:Level)(r:Level):aQ×HP:=(.ret (.a [(.l 4 (r.Readers.map AV.b)),(.l 4 (r.Writers.map AV.b))]),H0)
def cE:Option Level:=
 (tn a0.Readers a1.Readers).bind fun (r1:(List Bool))=>
 (uN a0.Writers a1.Writers).bind fun (r3:(List Bool))=>
 some (⟨r1,r3⟩:Level)
theorem fW(r:Level)(h:cE a0 a1=some r):call G Ω0 E0 98 [(.a [(.l 4 (a0.Readers.map AV.b)),(.l 4 (a0.Writers.map AV.b))]),(.a [(.l 4 (a1.Readers.map AV.b)),(.l 4 (a1.Writers.map AV.b))])] H0=some (Hv a0 a1 r):=
 aJ G98 (gT<|.ex fun (r1:(List Bool))=>ao (.v (.l 4 (r1.map AV.b)))<|gT<|.ex fun (r3:(List Bool))=>ao (.v (.l 4 (r3.map AV.b)))<|gT<|.nil) fun L=>bJ<|bJ<|dO<|bJ<|ai (rfl:Z0)<|ai tt<|aT h (Ev a0.Readers a1.Readers) fun r1 h=>bJ<|ai (rfl:Z0)<|bJ<|ai (rfl:Z0)<|ai tt<|aT h (Gc a0.Writers a1.Writers) fun r3 h=>Ll<|L h
end
section
variable (a0:aa)
abbrev Ew(a0:aa)(r:Level):aQ×HP:=(.ret (.a [(.l 4 (r.Readers.map AV.b)),(.l 4 (r.Writers.map AV.b))]),H0)
def fu:Option Level:=
 (Lj true a0.Many).bind fun (r1:(List Bool))=>
 (dG a0.Many).bind fun (j3:Nat)=>
 if j3≤1000000000 then
  some (⟨r1,List.replicate j3 false⟩:Level)
 else none
theorem lV(r:Level)(h:fu a0=some r):call G Ω0 E0 96 [(.a [(I a0.Many),(.l 166 (a0.Grants.map aB))])] H0=some (Ew a0 r):=
 aJ G96 (ao (.l ([true].map AV.b))<|bt<|.ex fun (r1:(List Bool))=>ao (.v (.l 4 (r1.map AV.b)))<|bt<|xN fun j3=>ao (.l ((List.replicate j3 false).map AV.b))<|gT<|.nil) fun L=>yF<|ai (rfl:[(.b true)]=[true].map AV.b)<|Ab<|bO h fun r1 ek2 h=>have ek2:Ω0 141 [(.l 4 ([true].map AV.b)),(I a0.Many)]=some (.l 4 (r1.map AV.b)):=Re ek2;ai ek2<|Ab<|rR h fun j3 h4 h=>ai h4<|aR h fun h5 h=>ai ((Ld h5 (by decide)):j3*1≤140737488355328)<|ai ((Lf h5):j3≤maxLen)<|ai ((List.map_replicate ..).symm:List.replicate j3 (.b false)=(List.replicate j3 false).map AV.b)<|ML<|L h
end
section
variable (a0:(List Bool))(a1:(List Bool))
def jg(v0_9:Nat):Option (Nat⊕(Unit⊕(Nat×Bool))):=
 if (v0_9:Int)<(a0.length:Int) then
  (a0[v0_9]?).bind fun (y2:Bool)=>
  if y2=true then
   (a1[v0_9]?).bind fun (y5:Bool)=>
   if y5=true then
    if IntKind.i64.wrap ((v0_9:Int)+1)=((v0_9+1:Nat):Int) then
     some (.inl (v0_9+1))
    else none
   else
    some (.inr (.inl ()))
  else
   if IntKind.i64.wrap ((v0_9:Int)+1)=((v0_9+1:Nat):Int) then
    some (.inl (v0_9+1))
   else none
 else
  some (.inr (.inr (v0_9,decide ((v0_9:Int)<(a0.length:Int)))))
abbrev Gd(v:Nat):St:=⟨[(1,(.l 4 (a1.map AV.b))),(7,(.l 4 (a0.map AV.b))),(8,(I (a0.length:Int))),(9,(I (v:Int)))],[],H0⟩
abbrev uj(x:(Unit⊕(Nat×Bool))):aI×St:=match x with | .inl ()=>(.ret,⟨[(4,(.b false))],[],H0⟩) | .inr (z1,z2)=>((.ex 0),⟨[(1,(.l 4 (a1.map AV.b))),(7,(.l 4 (a0.map AV.b))),(8,(I (a0.length:Int))),(9,(I (z1:Int))),(10,(.b z2))],[],H0⟩)
theorem Ex(v0_9:Nat)(o:Nat⊕(Unit⊕(Nat×Bool)))(h:jg a0 a1 v0_9=some o):bB E0 Me (Gd a0 a1) (uj a0 a1) v0_9 o:=
 bL (.or (bt<|ao (.n v0_9)<|xB fun y2=>.or (ew<|ao (.n v0_9)<|xB fun y5=>ew<|.or (bf<|ao (.i ((v0_9+1:Nat):Int))<|.nil) (bt<|.nil)) (Pj<|ao (.i ((v0_9+1:Nat):Int))<|.nil)) (bf<|.nil)) fun L=>bZ h (fun h1 h=>ai (decide_eq_true h1)<|ai (rI v0_9)<|bO h fun y2 h3 h=>ai (aU AV.b h3)<|bE h (fun h4 h=>JW h4<|ai (rI v0_9)<|bO h fun y5 h6 h=>ai (aU AV.b h6)<|tI h4<|bE h (fun h7 h=>ai (congrArg not h7)<|aR h fun w8 h=>ai w8<|L h) (fun h7 h=>ai (congrArg not h7)<|L h)) (fun h4 h=>bG h4<|bG h4<|sj h4<|ai ff<|aR h fun w5 h=>ai w5<|L h)) (fun h1 h=>ai (decide_eq_false h1)<|L h)
abbrev Jh(a0:(List Bool))(a1:(List Bool))(r:Bool):aQ×HP:=(.ret (.b r),H0)
def lM:Option Bool:=
 (lp (fun v=>jg a0 a1 v) 0).bind fun (x1:(Unit⊕(Nat×Bool)))=>match x1 with
 | .inl ya_2=>
  some false
 | .inr yb_2=>
  some true
theorem pw(r:Bool)(h:lM a0 a1=some r):call G Ω0 E0 109 [(.l 4 (a0.map AV.b)),(.l 4 (a1.map AV.b))] H0=some (Jh a0 a1 r):=
 aJ abF (ao (.i (a0.length:Int))<|.or (.ex fun (ya_2:Unit)=>ao (.cu (uj a0 a1 (.inl ya_2)))<|.nil) (.ex fun (yb_2:(Nat×Bool))=>ao (.cu (uj a0 a1 (.inr yb_2)))<|.nil)) fun L=>ai (aG AV.b a0)<|ec h (gl (Ex a0 a1) 0) (fun ya_2 h=>L h) (fun yb_2 h=>L h)
end
section
variable (a0:Level)(a1:Level)
abbrev Ge(a0:Level)(a1:Level)(r:Bool):aQ×HP:=(.ret (.b r),H0)
def df:Option Bool:=
 (lM a1.Readers a0.Readers).bind fun (r1:Bool)=>
 if r1=true then
  (lM a0.Writers a1.Writers).bind fun (r4:Bool)=>
  some r4
 else
  some false
theorem il(r:Bool)(h:df a0 a1=some r):call G Ω0 E0 43 [(.a [(.l 4 (a0.Readers.map AV.b)),(.l 4 (a0.Writers.map AV.b))]),(.a [(.l 4 (a1.Readers.map AV.b)),(.l 4 (a1.Writers.map AV.b))])] H0=some (Ge a0 a1 r):=
 aJ G43 (gT<|xB fun r1=>.or (bt<|bt<|bt<|bt<|bt<|bt<|bt<|xB fun r4=>bt<|.nil) (MP<|.nil)) fun L=>bJ<|ai (rfl:Z0)<|ai (rfl:Z0)<|aT h (pw a1.Readers a0.Readers) fun r1 h=>bE h (fun h3 h=>bG h3<|ai (rfl:Z0)<|bG h3<|ai (rfl:Z0)<|ai (g1 h3)<|aT h (pw a0.Writers a1.Writers) fun r4 h=>ai h3<|L h) (fun h3 h=>Pg h3<|L h)
end
section
variable (a0:aa)
def jR(v0_3:(List (List Bool)))(v0_12:Nat)(v1_5:(List Bool))(y9:Int)(j12:Nat)(v2_6:(List Int))(v2_44:Nat):Option (((List Int)×Nat)⊕((List Int)×Nat×Bool)):=
 if (v2_44:Int)<(a0.Grants.length:Int) then
  (a0.Grants[v2_44]?).bind fun (y18:bc)=>
  if (y18.Who==y9)=true then
   if v2_6.length + [y18.For].length≤1000000000 then
    if IntKind.i64.wrap ((v2_44:Int)+1)=((v2_44+1:Nat):Int) then
     some (.inl (v2_6++[y18.For],v2_44+1))
    else none
   else none
  else
   if IntKind.i64.wrap ((v2_44:Int)+1)=((v2_44+1:Nat):Int) then
    some (.inl (v2_6,v2_44+1))
   else none
 else
  some (.inr (v2_6,v2_44,decide ((v2_44:Int)<(a0.Grants.length:Int))))
abbrev Ey(v0_3:(List (List Bool)))(v0_12:Nat)(v1_5:(List Bool))(y9:Int)(j12:Nat)(v:((List Int)×Nat)):St:=⟨[(1,(.p ⟨0,1⟩ 0)),(3,(.o 43 (v0_3.map (cz 4 AV.b)))),(5,(.o 4 ((v1_5.set j12 true).map AV.b))),(6,(.o 3 (v.1.map (I)))),(7,(I y9)),(11,(I a0.Many)),(12,(I (v0_12:Int))),(29,.u),(42,(.l 166 (a0.Grants.map aB))),(43,(I (a0.Grants.length:Int))),(44,(I (v.2:Int)))],[(1,[(I a0.Many),(.l 166 (a0.Grants.map aB))])],H0⟩
abbrev xQ(v0_3:(List (List Bool)))(v0_12:Nat)(v1_5:(List Bool))(y9:Int)(j12:Nat)(x:((List Int)×Nat×Bool)):aI×St:=((.ex 4),⟨[(1,(.p ⟨0,1⟩ 0)),(3,(.o 43 (v0_3.map (cz 4 AV.b)))),(5,(.o 4 ((v1_5.set j12 true).map AV.b))),(6,(.o 3 (x.1.map (I)))),(7,(I y9)),(11,(I a0.Many)),(12,(I (v0_12:Int))),(29,.u),(42,(.l 166 (a0.Grants.map aB))),(43,(I (a0.Grants.length:Int))),(44,(I (x.2.1:Int))),(45,(.b x.2.2))],[(1,[(I a0.Many),(.l 166 (a0.Grants.map aB))])],H0⟩)
theorem Dt(v0_3:(List (List Bool)))(v0_12:Nat)(v1_5:(List Bool))(y9:Int)(j12:Nat)(v2_6:(List Int))(v2_44:Nat)(o:((List Int)×Nat)⊕((List Int)×Nat×Bool))(h:jR a0 v0_3 v0_12 v1_5 y9 j12 v2_6 v2_44=some o):bB E0 Ma (Ey a0 v0_3 v0_12 v1_5 y9 j12) (xQ a0 v0_3 v0_12 v1_5 y9 j12) (v2_6,v2_44) o:=
 bL (.or (bt<|ao (.n v2_44)<|.ex fun (y18:bc)=>ao (.v (.a [(I y18.Who),(I y18.For)]))<|ew<|.or (gT<|ao (.l ([y18.For].map (I)))<|ao (.l ((v2_6++[y18.For]).map (I)))<|ao (.i ((v2_44+1:Nat):Int))<|.nil) (bf<|ao (.i ((v2_44+1:Nat):Int))<|.nil)) (bf<|.nil)) fun L=>bZ h (fun h17 h=>ai (decide_eq_true h17)<|ai (rI v2_44)<|bO h fun y18 h19 h=>ai (aU aB h19)<|ML<|bE h (fun h20 h=>uA h20<|ai (rfl:[(I y18.For)]=[y18.For].map (I))<|ai ff<|aR h fun h21 h=>ai ((fQ (I) (n:=1) (fun _=>rfl) [y18.For]):([y18.For].map (I)).all (fun e=>e.nc==1)=true)<|ai ((kE h21 (by decide)):((v2_6.map (I)).length+([y18.For].map (I)).length)*8≤140737488355328)<|ai ((kG h21):(v2_6.map (I)).length+([y18.For].map (I)).length≤maxLen)<|ai (List.map_append.symm:v2_6.map (I)++[y18.For].map (I)=(v2_6++[y18.For]).map (I))<|aR h fun w22 h=>ai w22<|L h) (fun h20 h=>ai h20<|aR h fun w21 h=>ai w21<|L h)) (fun h17 h=>ai (decide_eq_false h17)<|L h)
def im(v0_3:(List (List Bool)))(v0_12:Nat)(v1_6:(List Int))(v1_5:(List Bool)):Option (((List Int)×(List Bool))⊕((List Bool)×(List Int)×Bool)):=
 if 0<(v1_6.length:Int) then
  if IntKind.i64.wrap ((v1_6.length:Int) - 1)=(v1_6.length:Int) - 1 then
   (dG ((v1_6.length:Int) - 1)).bind fun (j7:Nat)=>
   (v1_6[j7]?).bind fun (y9:Int)=>
   if j7≤v1_6.length then
    (dG y9).bind fun (j12:Nat)=>
    (v1_5[j12]?).bind fun (y14:Bool)=>
    if y14=true then
     some (.inl (v1_6.take j7,v1_5))
    else
     (lp (fun v=>jR a0 v0_3 v0_12 v1_5 y9 j12 v.1 v.2) ((v1_6.take j7),0)).bind fun (x17:((List Int)×Nat×Bool))=>
     some (.inl (x17.1,v1_5.set j12 true))
   else none
  else none
 else
  some (.inr (v1_5,v1_6,decide (0<(v1_6.length:Int))))
abbrev Ez(v0_3:(List (List Bool)))(v0_12:Nat)(v:((List Int)×(List Bool))):St:=⟨[(1,(.p ⟨0,1⟩ 0)),(3,(.o 43 (v0_3.map (cz 4 AV.b)))),(5,(.o 4 (v.2.map AV.b))),(6,(.o 3 (v.1.map (I)))),(11,(I a0.Many)),(12,(I (v0_12:Int))),(29,.u)],[(1,[(I a0.Many),(.l 166 (a0.Grants.map aB))])],H0⟩
abbrev xR(v0_3:(List (List Bool)))(v0_12:Nat)(x:((List Bool)×(List Int)×Bool)):aI×St:=((.ex 2),⟨[(1,(.p ⟨0,1⟩ 0)),(3,(.o 43 (v0_3.map (cz 4 AV.b)))),(5,(.o 4 (x.1.map AV.b))),(6,(.o 3 (x.2.1.map (I)))),(11,(I a0.Many)),(12,(I (v0_12:Int))),(22,(.b x.2.2)),(29,.u)],[(1,[(I a0.Many),(.l 166 (a0.Grants.map aB))])],H0⟩)
theorem Du(v0_3:(List (List Bool)))(v0_12:Nat)(v1_6:(List Int))(v1_5:(List Bool))(o:((List Int)×(List Bool))⊕((List Bool)×(List Int)×Bool))(h:im a0 v0_3 v0_12 v1_6 v1_5=some o):bB E0 Mb (Ez a0 v0_3 v0_12) (xR a0 v0_3 v0_12) (v1_6,v1_5) o:=
 bL (ao (.i (v1_6.length:Int))<|.or (bt<|ao (.i (v1_6.length:Int))<|ao (.i ((v1_6.length:Int) - 1))<|xN fun j7=>xI fun y9=>ao (.v (I y9))<|ao (.i (v1_6.length:Int))<|ao (.i ((v1_6.length:Int) - 1))<|ao (.n j7)<|ao (.n j7)<|bt<|ao (.l ((v1_6.take j7).map (I)))<|xN fun j12=>xB fun y14=>ao (.v (.b y14))<|oN (ao (.n j12)<|ao (.v (.b y14))<|ao (.v (.b y14))<|ao (.l ((v1_5.set j12 true).map AV.b))<|bt<|ao (.i (a0.Grants.length:Int))<|.ex fun (x17:((List Int)×Nat×Bool))=>ao (.cu (xQ a0 v0_3 v0_12 v1_5 y9 j12 x17))<|.nil)) (bf<|.nil)) fun L=>ai (aG (I) v1_6)<|bZ h (fun h5 h=>ai (decide_eq_true h5)<|ai (aG (I) v1_6)<|aR h fun w6 h=>ai w6<|rR h fun j7 h8 h=>ai h8<|bO h fun y9 h10 h=>ai (aU (I) h10)<|ai (aU (I) h10)<|ai (aG (I) v1_6)<|ai w6<|ai h8<|ai (Nat.zero_le _:0≤j7)<|aR h fun h11 h=>ai ((by rw [List.length_map];exact h11):j7≤(v1_6.map (I)).length)<|ai ((by simp):j7 - 0=j7)<|ai (rfl:((.s 6):Pl)=(.s 6))<|ai ((by rw [List.length_map];exact h11):j7≤(v1_6.map (I)).length)<|ai (map_take (I) v1_6 j7)<|rR h fun j12 h13 h=>ai h13<|bO h fun y14 h15 h=>ai (aU AV.b h15)<|ai (aU AV.b h15)<|bE h (fun h16 h=>ai h16<|L h) (fun h16 h=>ai h16<|ai h13<|ai (aU AV.b h15)<|ai ff<|ai (aU AV.b h15)<|ai (map_set .. : (v1_5.map AV.b).set j12 (.b true)=(v1_5.set j12 true).map AV.b)<|ai (rfl:Z0)<|ai (aG aB a0.Grants)<|aT h (gl (fun v=>Dt a0 v0_3 v0_12 v1_5 y9 j12 v.1 v.2) ((v1_6.take j7),0)) fun x17 h=>L h)) (fun h5 h=>ai (decide_eq_false h5)<|L h)
def jS(v0_3:(List (List Bool)))(v0_12:Nat):Option (((List (List Bool))×Nat)⊕((List (List Bool))×Nat×Bool)):=
 if (v0_12:Int)<a0.Many then
  (dG a0.Many).bind fun (j2:Nat)=>
  if j2≤1000000000 then
   (lp (fun v=>im a0 v0_3 v0_12 v.1 v.2) (([(v0_12:Int)]),(List.replicate j2 false))).bind fun (x5:((List Bool)×(List Int)×Bool))=>
   if v0_3.length + [x5.1].length≤1000000000 then
    if IntKind.i64.wrap ((v0_12:Int)+1)=((v0_12+1:Nat):Int) then
     some (.inl (v0_3++[x5.1],v0_12+1))
    else none
   else none
  else none
 else
  some (.inr (v0_3,v0_12,decide ((v0_12:Int)<a0.Many)))
abbrev EA(v:((List (List Bool))×Nat)):St:=⟨[(1,(.p ⟨0,1⟩ 0)),(3,(.o 43 (v.1.map (cz 4 AV.b)))),(11,(I a0.Many)),(12,(I (v.2:Int)))],[(1,[(I a0.Many),(.l 166 (a0.Grants.map aB))])],H0⟩
abbrev xS(x:((List (List Bool))×Nat×Bool)):aI×St:=((.ex 0),⟨[(1,(.p ⟨0,1⟩ 0)),(3,(.o 43 (x.1.map (cz 4 AV.b)))),(11,(I a0.Many)),(12,(I (x.2.1:Int))),(13,(.b x.2.2))],[(1,[(I a0.Many),(.l 166 (a0.Grants.map aB))])],H0⟩)
theorem Dv(v0_3:(List (List Bool)))(v0_12:Nat)(o:((List (List Bool))×Nat)⊕((List (List Bool))×Nat×Bool))(h:jS a0 v0_3 v0_12=some o):bB E0 Mc (EA a0) (xS a0) (v0_3,v0_12) o:=
 bL (.or (gT<|xN fun j2=>ao (.l ((List.replicate j2 false).map AV.b))<|ao (.l (([(v0_12:Int)]).map (I)))<|.ex fun (x5:((List Bool)×(List Int)×Bool))=>ao (.cu (xR a0 v0_3 v0_12 x5))<|ao (.l ([x5.1].map (cz 4 AV.b)))<|ao (.l ((v0_3++[x5.1]).map (cz 4 AV.b)))<|ao (.i ((v0_12+1:Nat):Int))<|.nil) (bf<|.nil)) fun L=>bZ h (fun h1 h=>uA (decide_eq_true h1)<|rR h fun j2 h3 h=>ai h3<|aR h fun h4 h=>ai ((Ld h4 (by decide)):j2*1≤140737488355328)<|ai ((Lf h4):j2≤maxLen)<|ai ((List.map_replicate ..).symm:List.replicate j2 (.b false)=(List.replicate j2 false).map AV.b)<|ai (rfl:[(I (v0_12:Int))]=([(v0_12:Int)]).map (I))<|aT h (gl (fun v=>Du a0 v0_3 v0_12 v.1 v.2) (([(v0_12:Int)]),(List.replicate j2 false))) fun x5 h=>ai (rfl:[(.l 4 (x5.1.map AV.b))]=[x5.1].map (cz 4 AV.b))<|ai ff<|aR h fun h7 h=>ai ((fQ (cz 4 AV.b) (n:=1) (fun _=>rfl) [x5.1]):([x5.1].map (cz 4 AV.b)).all (fun e=>e.nc==1)=true)<|ai ((kE h7 (by decide)):((v0_3.map (cz 4 AV.b)).length+([x5.1].map (cz 4 AV.b)).length)*24≤140737488355328)<|ai ((kG h7):(v0_3.map (cz 4 AV.b)).length+([x5.1].map (cz 4 AV.b)).length≤maxLen)<|ai (List.map_append.symm:v0_3.map (cz 4 AV.b)++[x5.1].map (cz 4 AV.b)=(v0_3++[x5.1]).map (cz 4 AV.b))<|aR h fun w8 h=>ai w8<|L h) (fun h1 h=>ai (decide_eq_false h1)<|L h)
abbrev Hw(a0:aa)(r:(List (List Bool))):aQ×HP:=(.ret (.l 43 (r.map (cz 4 AV.b))),H0)
def oB:Option (List (List Bool)):=
 (lp (fun v=>jS a0 v.1 v.2) (([]:List (List Bool)),0)).bind fun (x1:((List (List Bool))×Nat×Bool))=>
 some x1.1
theorem wP(r:(List (List Bool)))(h:oB a0=some r):call G Ω0 E0 102 [(.a [(I a0.Many),(.l 166 (a0.Grants.map aB))])] H0=some (Hw a0 r):=
 aJ abA (bt<|.ex fun (x1:((List (List Bool))×Nat×Bool))=>ao (.cu (xS a0 x1))<|.nil) fun L=>dO<|aT h (gl (fun v=>Dv a0 v.1 v.2) (([]:List (List Bool)),0)) fun x1 h=>L h
end
section
variable (a0:Int)(a1:(List (List Bool)))(a2:Int)
abbrev Cb(a0:Int)(a1:(List (List Bool)))(a2:Int)(r:Bool):aQ×HP:=(.ret (.b r),H0)
def km:Option Bool:=
 (dG a2).bind fun (j1:Nat)=>
 (a1[j1]?).bind fun (y3:(List Bool))=>
 (dG a0).bind fun (j5:Nat)=>
 (y3[j5]?).bind fun (y7:Bool)=>
 some y7
theorem zG(r:Bool)(h:km a0 a1 a2=some r):call G Ω0 E0 106 [(I a0),(.e (.l 43 (a1.map (cz 4 AV.b))) 0),(.e (I a2) 0)] H0=some (Cb a0 a1 a2 r):=
 aJ abD (xN fun j1=>.ex fun (y3:(List Bool))=>ao (.v (.l 4 (y3.map AV.b)))<|xN fun j5=>xB fun y7=>.nil) fun L=>rR h fun j1 h2 h=>ai h2<|bO h fun y3 h4 h=>ai (aU (cz 4 AV.b) h4)<|rR h fun j5 h6 h=>ai h6<|bO h fun y7 h8 h=>ai (aU AV.b h8)<|L h
end
section
variable (a0:(List Int))(a1:(List (List Bool)))(a2:Int)
def iJ(v0_8:Nat):Option (Nat⊕(Nat⊕(Nat×Bool))):=
 if (v0_8:Int)<(a0.length:Int) then
  (a0[v0_8]?).bind fun (y2:Int)=>
  (km y2 a1 a2).bind fun (r4:Bool)=>
  if r4=true then
   some (.inr (.inl v0_8))
  else
   if IntKind.i64.wrap ((v0_8:Int)+1)=((v0_8+1:Nat):Int) then
    some (.inl (v0_8+1))
   else none
 else
  some (.inr (.inr (v0_8,decide ((v0_8:Int)<(a0.length:Int)))))
abbrev oC(v:Nat):St:=⟨[(0,(.l 3 (a0.map (I)))),(1,(.f 106 [(.e (.l 43 (a1.map (cz 4 AV.b))) 0),(.e (I a2) 0)])),(7,(I (a0.length:Int))),(8,(I (v:Int)))],[],H0⟩
abbrev ep(x:(Nat⊕(Nat×Bool))):aI×St:=match x with | .inl z1=>(.ret,⟨[(4,(I (z1:Int)))],[],H0⟩) | .inr (z1,z2)=>((.ex 0),⟨[(0,(.l 3 (a0.map (I)))),(1,(.f 106 [(.e (.l 43 (a1.map (cz 4 AV.b))) 0),(.e (I a2) 0)])),(7,(I (a0.length:Int))),(8,(I (z1:Int))),(9,(.b z2))],[],H0⟩)
theorem n7(v0_8:Nat)(o:Nat⊕(Nat⊕(Nat×Bool)))(h:iJ a0 a1 a2 v0_8=some o):bB E0 xA (oC a0 a1 a2) (ep a0 a1 a2) v0_8 o:=
 bL (.or (bt<|ao (.n v0_8)<|xI fun y2=>xB fun r4=>oN (ao (.i ((v0_8+1:Nat):Int))<|.nil)) (bf<|.nil)) fun L=>bZ h (fun h1 h=>ai (decide_eq_true h1)<|ai (rI v0_8)<|bO h fun y2 h3 h=>ai (aU (I) h3)<|aT h (zG y2 a1 a2) fun r4 h=>bE h (fun h6 h=>ai h6<|L h) (fun h6 h=>ai h6<|aR h fun w7 h=>ai w7<|L h)) (fun h1 h=>ai (decide_eq_false h1)<|L h)
abbrev p9(a0:(List Int))(a1:(List (List Bool)))(a2:Int)(r:Int):aQ×HP:=(.ret (I r),H0)
def jo:Option Int:=
 (lp (fun v=>iJ a0 a1 a2 v) 0).bind fun (x1:(Nat⊕(Nat×Bool)))=>match x1 with
 | .inl ya_2=>
  some (ya_2:Int)
 | .inr yb_2=>
  some (-1)
theorem n9(r:Int)(h:jo a0 a1 a2=some r):call G Ω0 E0 143 [(.l 3 (a0.map (I))),(.f 106 [(.e (.l 43 (a1.map (cz 4 AV.b))) 0),(.e (I a2) 0)])] H0=some (p9 a0 a1 a2 r):=
 aJ G1 (ao (.i (a0.length:Int))<|.or (.ex fun (ya_2:Nat)=>ao (.cu (ep a0 a1 a2 (.inl ya_2)))<|.nil) (.ex fun (yb_2:(Nat×Bool))=>ao (.cu (ep a0 a1 a2 (.inr yb_2)))<|.nil)) fun L=>ai (aG (I) a0)<|ec h (gl (n7 a0 a1 a2) 0) (fun ya_2 h=>L h) (fun yb_2 h=>L h)
abbrev oa(a0:(List Int))(a1:(List (List Bool)))(a2:Int)(r:Bool):aQ×HP:=(.ret (.b r),H0)
def dY:Option Bool:=
 (jo a0 a1 a2).bind fun (r1:Int)=>
 some (decide (0≤r1))
theorem mU(r:Bool)(h:dY a0 a1 a2=some r):call G Ω0 E0 105 [(.l 3 (a0.map (I))),(.f 106 [(.e (.l 43 (a1.map (cz 4 AV.b))) 0),(.e (I a2) 0)])] H0=some (oa a0 a1 a2 r):=
 aJ G0 (xI fun r1=>.nil) fun L=>aT h (n9 a0 a1 a2) fun r1 h=>L h
end
section
variable (a0:aD)(a1:(List (List Bool)))(a2:Int)
abbrev EB(a0:aD)(a1:(List (List Bool)))(a2:Int)(r:Bool):aQ×HP:=(.ret (.b r),H0)
def ml:Option Bool:=
 (dG a2).bind fun (j1:Nat)=>
 (a1[j1]?).bind fun (y3:(List Bool))=>
 (dG a0.Owner).bind fun (j5:Nat)=>
 (y3[j5]?).bind fun (y7:Bool)=>
 if y7=true then
  some false
 else
  (dY a0.Names a1 a2).bind fun (r10:Bool)=>
  some (!r10)
theorem BE(r:Bool)(h:ml a0 a1 a2=some r):call G Ω0 E0 104 [(.a [(I a0.Owner),(.l 3 (a0.Names.map (I)))]),(.e (.l 43 (a1.map (cz 4 AV.b))) 0),(.e (I a2) 0)] H0=some (EB a0 a1 a2 r):=
 aJ abC (xN fun j1=>.ex fun (y3:(List Bool))=>ao (.v (.l 4 (y3.map AV.b)))<|bt<|xN fun j5=>xB fun y7=>.or (MP<|.nil) (tJ<|xB fun r10=>gT<|.nil)) fun L=>bJ<|bJ<|rR h fun j1 h2 h=>ai h2<|bO h fun y3 h4 h=>ai (aU (cz 4 AV.b) h4)<|bJ<|dO<|ai tt<|rR h fun j5 h6 h=>ai h6<|bO h fun y7 h8 h=>ai (aU AV.b h8)<|bJ<|bJ<|bE h (fun h9 h=>Pg (congrArg not h9)<|L h) (fun h9 h=>vt (congrArg not h9)<|ai (rfl:Z0)<|ai tt<|vt (congrArg not h9)<|aT h (mU a0.Names a1 a2) fun r10 h=>sj (congrArg not h9)<|L h)
end
end
end Go.Proofs.YtkkkkondjclcnaaGreat.A
