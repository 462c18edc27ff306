/- Functions of the program as plain functions, by program. -/
import Derived.Test.YtkkkkondjclcnaaTypes
import Derived.Test.YtkkkkondjclcnaaLift
import Derived.Test.YtkkkkondjclcnaaFB
set_option maxRecDepth 100000
set_option linter.unusedSectionVars false
set_option linter.unusedVariables false
set_option linter.unusedSimpArgs false
set_option linter.constructorNameAsVariable false
namespace Go.Proofs.Ytkkkkondjclcnaa.A
open Go
noncomputable section
variable [Lp]
section
variable (a0:aa)(a1:Int)
abbrev DS(a0:aa)(a1:Int)(r:Bool):aR×HP:=(.ret (.b r),H0)
def gv:Option Bool:=
 if 0≤a1 then
  some (decide (a1<a0.Many))
 else
  some false
theorem jl(r:Bool)(h:gv a0 a1=some r):call G Ω0 E0 57 [(.a [(I a0.Many),(.l 93 (a0.Grants.map ax))]),(I a1)] H0=some (DS a0 a1 r):=
 aH Ua (.or (HG<|.nil) (bf<|bf<|bf<|bf<|bf<|.nil)) fun L=>ai tt<|bQ h (fun h1 h=>ai (g1 (decide_eq_true h1))<|ai (g1 (decide_eq_true h1))<|ai (g1 (decide_eq_true h1))<|ai (rfl:Z0)<|ai (g1 (decide_eq_true h1))<|ai (decide_eq_true h1)<|L h) (fun h1 h=>ai (g1 (decide_eq_false h1))<|ai (g1 (decide_eq_false h1))<|ai (g1 (decide_eq_false h1))<|ai (g1 (decide_eq_false h1))<|ai (decide_eq_false h1)<|L h)
end
section
variable (a0:bu)(a1:aa)
abbrev xm(a0:bu)(a1:aa)(r:Bool):aR×HP:=(.ret (.b r),H0)
def gN:Option Bool:=
 (gv a1 a0.Who).bind fun (r1:Bool)=>
 if r1=true then
  (gv a1 a0.For).bind fun (r4:Bool)=>
  some (!r4)
 else
  some true
theorem uR(r:Bool)(h:gN a0 a1=some r):call G Ω0 E0 71 [(.a [(I a0.Who),(I a0.For)]),(.e (.a [(I a1.Many),(.l 93 (a1.Grants.map ax))]) 0)] H0=some (xm a0 a1 r):=
 aH Ul (bt<|xB fun r1=>.or (oi<|xB fun r4=>sd<|.nil) (bf<|bf<|bf<|bf<|bf<|bt<|.nil)) fun L=>ai tt<|ai (rfl:Z0)<|aJ h (jl a1 a0.Who) fun r1 h=>bb h (fun h3 h=>ai (g0 (congrArg not h3))<|ai (g0 (congrArg not h3))<|ai (g0 (congrArg not h3))<|ai (rfl:Z0)<|ai (g0 (congrArg not h3))<|aJ h (jl a1 a0.For) fun r4 h=>uL (congrArg not h3)<|L h) (fun h3 h=>ai (g0 (congrArg not h3))<|ai (g0 (congrArg not h3))<|ai (g0 (congrArg not h3))<|ai (g0 (congrArg not h3))<|ai (g0 (congrArg not h3))<|ai (congrArg not h3)<|L h)
end
section
variable (a0:(List bu))(a1:aa)
def fk(v0_8:Nat):Option (Nat⊕(Nat⊕(Nat×Bool))):=
 if (v0_8:Int)<(a0.length:Int) then
  (a0[v0_8]?).bind fun (y2:bu)=>
  (gN y2 a1).bind fun (r4:Bool)=>
  if r4=true then
   some (.inr (.inl v0_8))
  else
   if IntKind.i64.wrap ((v0_8:Int)+1)=((v0_8+1:Nat):Int) then
    some (.inl (v0_8+1))
   else none
 else
  some (.inr (.inr (v0_8,decide ((v0_8:Int)<(a0.length:Int)))))
abbrev k5(v:Nat):St:=⟨[(0,(.l 93 (a0.map ax))),(1,(.f 71 [(.e (.a [(I a1.Many),(.l 93 (a1.Grants.map ax))]) 0)])),(7,(I (a0.length:Int))),(8,(I (v:Int)))],[],H0⟩
abbrev k6(x:(Nat⊕(Nat×Bool))):aE×St:=match x with | .inl z1=>(.ret,⟨[(4,(I (z1:Int)))],[],H0⟩) | .inr (z1,z2)=>((.ex 0),⟨[(0,(.l 93 (a0.map ax))),(1,(.f 71 [(.e (.a [(I a1.Many),(.l 93 (a1.Grants.map ax))]) 0)])),(7,(I (a0.length:Int))),(8,(I (z1:Int))),(9,(.b z2))],[],H0⟩)
theorem kL(v0_8:Nat)(o:Nat⊕(Nat⊕(Nat×Bool)))(h:fk a0 a1 v0_8=some o):bG E0 Jm (k5 a0 a1) (k6 a0 a1) v0_8 o:=
 bO (.or (bt<|ao (.n v0_8)<|.ex fun (y2:bu)=>ao (.v (.a [(I y2.Who),(I y2.For)]))<|xB fun r4=>oN (ao (.i ((v0_8+1:Nat):Int))<|.nil)) (bf<|.nil)) fun L=>bQ h (fun h1 h=>ai (decide_eq_true h1)<|ai (rI v0_8)<|cw h fun y2 h3 h=>ai (aZ ax h3)<|aJ h (uR y2 a1) fun r4 h=>bb h (fun h6 h=>ai h6<|L h) (fun h6 h=>ai h6<|aV h fun w7 h=>ai w7<|L h)) (fun h1 h=>ai (decide_eq_false h1)<|L h)
abbrev mJ(a0:(List bu))(a1:aa)(r:Int):aR×HP:=(.ret (I r),H0)
def fP:Option Int:=
 (lp (fun v=>fk a0 a1 v) 0).bind fun (x1:(Nat⊕(Nat×Bool)))=>match x1 with
 | .inl ya_2=>
  some (ya_2:Int)
 | .inr yb_2=>
  some (-1)
theorem kM(r:Int)(h:fP a0 a1=some r):call G Ω0 E0 85 [(.l 93 (a0.map ax)),(.f 71 [(.e (.a [(I a1.Many),(.l 93 (a1.Grants.map ax))]) 0)])] H0=some (mJ a0 a1 r):=
 aH Ut (ao (.i (a0.length:Int))<|.or (.ex fun (ya_2:Nat)=>ao (.lp .ret ⟨[(4,(I (ya_2:Int)))],[],H0⟩)<|.nil) (.ex fun (yb_2:(Nat×Bool))=>ao (.lp (.ex 0) ⟨[(0,(.l 93 (a0.map ax))),(1,(.f 71 [(.e (.a [(I a1.Many),(.l 93 (a1.Grants.map ax))]) 0)])),(7,(I (a0.length:Int))),(8,(I (yb_2.1:Int))),(9,(.b yb_2.2))],[],H0⟩)<|.nil)) fun L=>ai (ay ax a0)<|dT h (gu (kL a0 a1) 0) (fun ya_2 h=>L h) (fun yb_2 h=>L h)
abbrev kN(a0:(List bu))(a1:aa)(r:Bool):aR×HP:=(.ret (.b r),H0)
def df:Option Bool:=
 (fP a0 a1).bind fun (r1:Int)=>
 some (decide (0≤r1))
theorem jI(r:Bool)(h:df a0 a1=some r):call G Ω0 E0 70 [(.l 93 (a0.map ax)),(.f 71 [(.e (.a [(I a1.Many),(.l 93 (a1.Grants.map ax))]) 0)])] H0=some (kN a0 a1 r):=
 aH Uk (xI fun r1=>.nil) fun L=>aJ h (kM a0 a1) fun r1 h=>L h
end
section
variable (a0:aa)
abbrev zR(a0:aa)(r:Int):aR×HP:=(.ret (I r),H0)
def jm:Option Int:=
 if a0.Many<1 then
  some 3
 else
  if 6<a0.Many then
   some 3
  else
   if 20<(a0.Grants.length:Int) then
    some 2
   else
    (df a0.Grants a0).bind fun (r4:Bool)=>
    if r4=true then
     some 5
    else
     some 0
theorem qa(r:Int)(h:jm a0=some r):call G Ω0 E0 41 [(.a [(I a0.Many),(.l 93 (a0.Grants.map ax))])] H0=some (zR a0 r):=
 aH TR (bt<|.or (bf<|bf<|bf<|bt<|bt<|.nil) (HH<|oN (bt<|ao (.i (a0.Grants.length:Int))<|oN (xB fun r4=>oN (.nil))))) fun L=>ai tt<|ai (rfl:Z0)<|bQ h (fun h1 h=>ai (g0 (decide_eq_true h1))<|ai (g0 (decide_eq_true h1))<|ai (g0 (decide_eq_true h1))<|ai (decide_eq_true h1)<|ai tt<|L h) (fun h1 h=>ai (g0 (decide_eq_false h1))<|ai (g0 (decide_eq_false h1))<|ai (rfl:Z0)<|ai (g0 (decide_eq_false h1))<|ai (decide_eq_false h1)<|bQ h (fun h2 h=>ai (decide_eq_true h2)<|L h) (fun h2 h=>p9 (decide_eq_false h2)<|ai (ay ax a0.Grants)<|bQ h (fun h3 h=>ai (decide_eq_true h3)<|L h) (fun h3 h=>p9 (decide_eq_false h3)<|aJ h (jI a0.Grants a0) fun r4 h=>bb h (fun h6 h=>ai h6<|L h) (fun h6 h=>ai h6<|L h))))
end
section
variable (a0:Int)(a1:Program)
abbrev zS(a0:Int)(a1:Program)(r:Bool):aR×HP:=(.ret (.b r),H0)
def lT:Option Bool:=
 (gv a1.aa a0).bind fun (r1:Bool)=>
 some (!r1)
theorem wF(r:Bool)(h:lT a0 a1=some r):call G Ω0 E0 56 [(I a0),(.e (.a (an a1)) 0)] H0=some (zS a0 a1 r):=
 aH T9 (xB fun r1=>.nil) fun L=>aJ h (jl a1.aa a0) fun r1 h=>L h
end
section
variable (a0:(List Int))(a1:Program)
def fQ(v0_8:Nat):Option (Nat⊕(Nat⊕(Nat×Bool))):=
 if (v0_8:Int)<(a0.length:Int) then
  (a0[v0_8]?).bind fun (y2:Int)=>
  (lT y2 a1).bind fun (r4:Bool)=>
  if r4=true then
   some (.inr (.inl v0_8))
  else
   if IntKind.i64.wrap ((v0_8:Int)+1)=((v0_8+1:Nat):Int) then
    some (.inl (v0_8+1))
   else none
 else
  some (.inr (.inr (v0_8,decide ((v0_8:Int)<(a0.length:Int)))))
abbrev mK(v:Nat):St:=⟨[(0,(.l 3 (a0.map (I)))),(1,(.f 56 [(.e (.a (an a1)) 0)])),(7,(I (a0.length:Int))),(8,(I (v:Int)))],[],H0⟩
abbrev mL(x:(Nat⊕(Nat×Bool))):aE×St:=match x with | .inl z1=>(.ret,⟨[(4,(I (z1:Int)))],[],H0⟩) | .inr (z1,z2)=>((.ex 0),⟨[(0,(.l 3 (a0.map (I)))),(1,(.f 56 [(.e (.a (an a1)) 0)])),(7,(I (a0.length:Int))),(8,(I (z1:Int))),(9,(.b z2))],[],H0⟩)
theorem lU(v0_8:Nat)(o:Nat⊕(Nat⊕(Nat×Bool)))(h:fQ a0 a1 v0_8=some o):bG E0 BX (mK a0 a1) (mL a0 a1) v0_8 o:=
 bO (.or (bt<|ao (.n v0_8)<|xI fun y2=>xB fun r4=>oN (ao (.i ((v0_8+1:Nat):Int))<|.nil)) (bf<|.nil)) fun L=>bQ h (fun h1 h=>ai (decide_eq_true h1)<|ai (rI v0_8)<|cw h fun y2 h3 h=>ai (aZ (I) h3)<|aJ h (wF y2 a1) fun r4 h=>bb h (fun h6 h=>ai h6<|L h) (fun h6 h=>ai h6<|aV h fun w7 h=>ai w7<|L h)) (fun h1 h=>ai (decide_eq_false h1)<|L h)
abbrev nJ(a0:(List Int))(a1:Program)(r:Int):aR×HP:=(.ret (I r),H0)
def gO:Option Int:=
 (lp (fun v=>fQ a0 a1 v) 0).bind fun (x1:(Nat⊕(Nat×Bool)))=>match x1 with
 | .inl ya_2=>
  some (ya_2:Int)
 | .inr yb_2=>
  some (-1)
theorem lV(r:Int)(h:gO a0 a1=some r):call G Ω0 E0 74 [(.l 3 (a0.map (I))),(.f 56 [(.e (.a (an a1)) 0)])] H0=some (nJ a0 a1 r):=
 aH L1 (ao (.i (a0.length:Int))<|.or (.ex fun (ya_2:Nat)=>ao (.lp .ret ⟨[(4,(I (ya_2:Int)))],[],H0⟩)<|.nil) (.ex fun (yb_2:(Nat×Bool))=>ao (.lp (.ex 0) ⟨[(0,(.l 3 (a0.map (I)))),(1,(.f 56 [(.e (.a (an a1)) 0)])),(7,(I (a0.length:Int))),(8,(I (yb_2.1:Int))),(9,(.b yb_2.2))],[],H0⟩)<|.nil)) fun L=>ai (ay (I) a0)<|dT h (gu (lU a0 a1) 0) (fun ya_2 h=>L h) (fun yb_2 h=>L h)
abbrev lW(a0:(List Int))(a1:Program)(r:Bool):aR×HP:=(.ret (.b r),H0)
def dB:Option Bool:=
 (gO a0 a1).bind fun (r1:Int)=>
 some (decide (0≤r1))
theorem kg(r:Bool)(h:dB a0 a1=some r):call G Ω0 E0 49 [(.l 3 (a0.map (I))),(.f 56 [(.e (.a (an a1)) 0)])] H0=some (lW a0 a1 r):=
 aH L0 (xI fun r1=>.nil) fun L=>aJ h (lV a0 a1) fun r1 h=>L h
end
section
variable (a0:(List (List Label)))
def bY(v0_3:Int)(v0_11:Nat):Option ((Int×Nat)⊕(Int×Nat×Bool)):=
 if (v0_11:Int)<(a0.length:Int) then
  (a0[v0_11]?).bind fun (y2:(List Label))=>
  if IntKind.i64.wrap (v0_3+(y2.length:Int))=v0_3+(y2.length:Int) then
   if (v0_3+(y2.length:Int))<0 then
    none
   else
    if IntKind.i64.wrap ((v0_11:Int)+1)=((v0_11+1:Nat):Int) then
     some (.inl (v0_3+(y2.length:Int),v0_11+1))
    else none
  else none
 else
  some (.inr (v0_3,v0_11,decide ((v0_11:Int)<(a0.length:Int))))
abbrev pA(v:(Int×Nat)):St:=⟨[(0,(.l 26 (a0.map (bM 60 ar)))),(3,(I v.1)),(9,(.l 26 (a0.map (bM 60 ar)))),(10,(I (a0.length:Int))),(11,(I (v.2:Int)))],[],H0⟩
abbrev pB(x:(Int×Nat×Bool)):aE×St:=((.ex 0),⟨[(0,(.l 26 (a0.map (bM 60 ar)))),(3,(I x.1)),(9,(.l 26 (a0.map (bM 60 ar)))),(10,(I (a0.length:Int))),(11,(I (x.2.1:Int))),(12,(.b x.2.2))],[],H0⟩)
theorem oS(v0_3:Int)(v0_11:Nat)(o:(Int×Nat)⊕(Int×Nat×Bool))(h:bY a0 v0_3 v0_11=some o):bG E0 Ja (pA a0) (pB a0) (v0_3,v0_11) o:=
 bO (.or (bt<|ao (.n v0_11)<|.ex fun (y2:(List Label))=>ao (.v (.l 60 (y2.map ar)))<|ao (.i (y2.length:Int))<|ao (.i (v0_3+(y2.length:Int)))<|bf<|ao (.i ((v0_11+1:Nat):Int))<|.nil) (bf<|.nil)) fun L=>bQ h (fun h1 h=>ai (decide_eq_true h1)<|ai (rI v0_11)<|cw h fun y2 h3 h=>ai (aZ (bM 60 ar) h3)<|ai (ay ar y2)<|aV h fun w4 h=>ai w4<|HC h (fun _ h=>tU h) (fun h5 h=>ai (decide_eq_false h5)<|aV h fun w6 h=>ai w6<|L h)) (fun h1 h=>ai (decide_eq_false h1)<|L h)
def bZ(v1_6:(List Label))(v1_27:Nat):Option (((List Label)×Nat)⊕((List Label)×Nat×Bool)):=
 if (v1_27:Int)<(a0.length:Int) then
  (a0[v1_27]?).bind fun (y5:(List Label))=>
  if v1_6.length+y5.length≤1000000000 then
   if IntKind.i64.wrap ((v1_27:Int)+1)=((v1_27+1:Nat):Int) then
    some (.inl (v1_6++y5,v1_27+1))
   else none
  else none
 else
  some (.inr (v1_6,v1_27,decide ((v1_27:Int)<(a0.length:Int))))
abbrev pC(v:((List Label)×Nat)):St:=⟨[(6,(.o 60 (v.1.map ar))),(25,(.l 26 (a0.map (bM 60 ar)))),(26,(I (a0.length:Int))),(27,(I (v.2:Int)))],[],H0⟩
abbrev pD(x:((List Label)×Nat×Bool)):aE×St:=((.ex 2),⟨[(6,(.o 60 (x.1.map ar))),(25,(.l 26 (a0.map (bM 60 ar)))),(26,(I (a0.length:Int))),(27,(I (x.2.1:Int))),(28,(.b x.2.2))],[],H0⟩)
theorem oT(v1_6:(List Label))(v1_27:Nat)(o:((List Label)×Nat)⊕((List Label)×Nat×Bool))(h:bZ a0 v1_6 v1_27=some o):bG E0 Jb (pC a0) (pD a0) (v1_6,v1_27) o:=
 bO (.or (bt<|ao (.n v1_27)<|.ex fun (y5:(List Label))=>ao (.v (.l 60 (y5.map ar)))<|ao (.l ((v1_6++y5).map ar))<|ao (.i ((v1_27+1:Nat):Int))<|.nil) (bf<|.nil)) fun L=>bQ h (fun h4 h=>ai (decide_eq_true h4)<|ai (rI v1_27)<|cw h fun y5 h6 h=>ai (aZ (bM 60 ar) h6)<|ai ff<|aV h fun h7 h=>ai ((jg ar (n:=2) (fun _=>rfl) y5):(y5.map ar).all (fun e=>e.nc==2)=true)<|ai ((np h7 (by decide)):((v1_6.map ar).length+(y5.map ar).length)*48≤140737488355328)<|ai ((nq h7):(v1_6.map ar).length+(y5.map ar).length≤maxLen)<|ai (List.map_append.symm:v1_6.map ar++y5.map ar=(v1_6++y5).map ar)<|aV h fun w8 h=>ai w8<|L h) (fun h4 h=>ai (decide_eq_false h4)<|L h)
abbrev qj(a0:(List (List Label)))(r:(List Label)):aR×HP:=(.ret (.l 60 (r.map ar)),H0)
def eg:Option (List Label):=
 (lp (fun v=>bY a0 v.1 v.2) (0,0)).bind fun (x1:(Int×Nat×Bool))=>
 if 0≤x1.1∧x1.1≤1000000 then
  (lp (fun v=>bZ a0 v.1 v.2) (([]:List Label),0)).bind fun (x4:((List Label)×Nat×Bool))=>
  some x4.1
 else none
theorem oU(r:(List Label))(h:eg a0=some r):call G Ω0 E0 58 [(.l 26 (a0.map (bM 60 ar)))] H0=some (qj a0 r):=
 aH Ub (ao (.i (a0.length:Int))<|.ex fun (x1:(Int×Nat×Bool))=>ao (.lp (.ex 0) ⟨[(0,(.l 26 (a0.map (bM 60 ar)))),(3,(I x1.1)),(9,(.l 26 (a0.map (bM 60 ar)))),(10,(I (a0.length:Int))),(11,(I (x1.2.1:Int))),(12,(.b x1.2.2))],[],H0⟩)<|ao (.i (a0.length:Int))<|.ex fun (x4:((List Label)×Nat×Bool))=>ao (.lp (.ex 2) ⟨[(6,(.o 60 (x4.1.map ar))),(25,(.l 26 (a0.map (bM 60 ar)))),(26,(I (a0.length:Int))),(27,(I (x4.2.1:Int))),(28,(.b x4.2.2))],[],H0⟩)<|.nil) fun L=>ai (ay (bM 60 ar) a0)<|aJ h (gu (fun v=>oS a0 v.1 v.2) (0,0)) fun x1 h=>aV h fun h3 h=>ai (HD h3:Ω0 76 [.n,(I x1.1)]=some (.o 60 []))<|ai (ay (bM 60 ar) a0)<|aJ h (gu (fun v=>oT a0 v.1 v.2) (([]:List Label),0)) fun x4 h=>L h
end
section
variable (a0:Int)(a1:aa)
abbrev xn(a0:Int)(a1:aa)(r:Bool):aR×HP:=(.ret (.b r),H0)
def jJ:Option Bool:=
 (gv a1 a0).bind fun (r1:Bool)=>
 some (!r1)
theorem uS(r:Bool)(h:jJ a0 a1=some r):call G Ω0 E0 86 [(I a0),(.e (.a [(I a1.Many),(.l 93 (a1.Grants.map ax))]) 0)] H0=some (xn a0 a1 r):=
 aH Uu (xB fun r1=>.nil) fun L=>aJ h (jl a1 a0) fun r1 h=>L h
end
section
variable (a0:(List Int))(a1:aa)
def fm(v0_8:Nat):Option (Nat⊕(Nat⊕(Nat×Bool))):=
 if (v0_8:Int)<(a0.length:Int) then
  (a0[v0_8]?).bind fun (y2:Int)=>
  (jJ y2 a1).bind fun (r4:Bool)=>
  if r4=true then
   some (.inr (.inl v0_8))
  else
   if IntKind.i64.wrap ((v0_8:Int)+1)=((v0_8+1:Nat):Int) then
    some (.inl (v0_8+1))
   else none
 else
  some (.inr (.inr (v0_8,decide ((v0_8:Int)<(a0.length:Int)))))
abbrev k7(v:Nat):St:=⟨[(0,(.l 3 (a0.map (I)))),(1,(.f 86 [(.e (.a [(I a1.Many),(.l 93 (a1.Grants.map ax))]) 0)])),(7,(I (a0.length:Int))),(8,(I (v:Int)))],[],H0⟩
abbrev k9(x:(Nat⊕(Nat×Bool))):aE×St:=match x with | .inl z1=>(.ret,⟨[(4,(I (z1:Int)))],[],H0⟩) | .inr (z1,z2)=>((.ex 0),⟨[(0,(.l 3 (a0.map (I)))),(1,(.f 86 [(.e (.a [(I a1.Many),(.l 93 (a1.Grants.map ax))]) 0)])),(7,(I (a0.length:Int))),(8,(I (z1:Int))),(9,(.b z2))],[],H0⟩)
theorem kO(v0_8:Nat)(o:Nat⊕(Nat⊕(Nat×Bool)))(h:fm a0 a1 v0_8=some o):bG E0 BX (k7 a0 a1) (k9 a0 a1) v0_8 o:=
 bO (.or (bt<|ao (.n v0_8)<|xI fun y2=>xB fun r4=>oN (ao (.i ((v0_8+1:Nat):Int))<|.nil)) (bf<|.nil)) fun L=>bQ h (fun h1 h=>ai (decide_eq_true h1)<|ai (rI v0_8)<|cw h fun y2 h3 h=>ai (aZ (I) h3)<|aJ h (uS y2 a1) fun r4 h=>bb h (fun h6 h=>ai h6<|L h) (fun h6 h=>ai h6<|aV h fun w7 h=>ai w7<|L h)) (fun h1 h=>ai (decide_eq_false h1)<|L h)
abbrev mM(a0:(List Int))(a1:aa)(r:Int):aR×HP:=(.ret (I r),H0)
def fR:Option Int:=
 (lp (fun v=>fm a0 a1 v) 0).bind fun (x1:(Nat⊕(Nat×Bool)))=>match x1 with
 | .inl ya_2=>
  some (ya_2:Int)
 | .inr yb_2=>
  some (-1)
theorem kP(r:Int)(h:fR a0 a1=some r):call G Ω0 E0 74 [(.l 3 (a0.map (I))),(.f 86 [(.e (.a [(I a1.Many),(.l 93 (a1.Grants.map ax))]) 0)])] H0=some (mM a0 a1 r):=
 aH L1 (ao (.i (a0.length:Int))<|.or (.ex fun (ya_2:Nat)=>ao (.lp .ret ⟨[(4,(I (ya_2:Int)))],[],H0⟩)<|.nil) (.ex fun (yb_2:(Nat×Bool))=>ao (.lp (.ex 0) ⟨[(0,(.l 3 (a0.map (I)))),(1,(.f 86 [(.e (.a [(I a1.Many),(.l 93 (a1.Grants.map ax))]) 0)])),(7,(I (a0.length:Int))),(8,(I (yb_2.1:Int))),(9,(.b yb_2.2))],[],H0⟩)<|.nil)) fun L=>ai (ay (I) a0)<|dT h (gu (kO a0 a1) 0) (fun ya_2 h=>L h) (fun yb_2 h=>L h)
abbrev kQ(a0:(List Int))(a1:aa)(r:Bool):aR×HP:=(.ret (.b r),H0)
def dh:Option Bool:=
 (fR a0 a1).bind fun (r1:Int)=>
 some (decide (0≤r1))
theorem jK(r:Bool)(h:dh a0 a1=some r):call G Ω0 E0 49 [(.l 3 (a0.map (I))),(.f 86 [(.e (.a [(I a1.Many),(.l 93 (a1.Grants.map ax))]) 0)])] H0=some (kQ a0 a1 r):=
 aH L0 (xI fun r1=>.nil) fun L=>aJ h (kP a0 a1) fun r1 h=>L h
end
section
variable (a1:bq)(a0:aa)
def dt(v0_5:Nat):Option (Nat⊕(Unit⊕(Nat×Bool))):=
 if (v0_5:Int)<(a1.Names.length:Int) then
  (a1.Names[v0_5]?).bind fun (y9:Int)=>
  if IntKind.i64.wrap ((v0_5:Int) - 1)=(v0_5:Int) - 1 then
   (fY ((v0_5:Int) - 1)).bind fun (j12:Nat)=>
   (a1.Names[j12]?).bind fun (y14:Int)=>
   if y9≤y14 then
    some (.inr (.inl ()))
   else
    if IntKind.i64.wrap ((v0_5:Int)+1)=((v0_5+1:Nat):Int) then
     some (.inl (v0_5+1))
    else none
  else none
 else
  some (.inr (.inr (v0_5,decide ((v0_5:Int)<(a1.Names.length:Int)))))
abbrev xp(v:Nat):St:=⟨[(3,(.p ⟨0,3⟩ 0)),(5,(I (v:Int)))],[(3,[(I a1.Owner),(.l 3 (a1.Names.map (I)))])],H0⟩
abbrev xq(x:(Unit⊕(Nat×Bool))):aE×St:=match x with | .inl ()=>(.ret,⟨[(4,(I 4))],[],H0⟩) | .inr (z1,z2)=>((.ex 1),⟨[(3,(.p ⟨0,3⟩ 0)),(5,(I (z1:Int))),(26,(.b z2))],[(3,[(I a1.Owner),(.l 3 (a1.Names.map (I)))])],H0⟩)
theorem wG(v0_5:Nat)(o:Nat⊕(Unit⊕(Nat×Bool)))(h:dt a1 v0_5=some o):bG E0 Jh (xp a1) (xq a1) v0_5 o:=
 bO (bt<|ao (.i (a1.Names.length:Int))<|.or (iI<|ao (.n v0_5)<|xI fun y9=>bt<|ao (.i ((v0_5:Int) - 1))<|xN fun j12=>xI fun y14=>oN (ao (.i ((v0_5+1:Nat):Int))<|.nil)) (bf<|.nil)) fun L=>ai (rfl:Z0)<|ai (ay (I) a1.Names)<|bQ h (fun h8 h=>ai (decide_eq_true h8)<|ai tt<|ai tt<|ai (rfl:Z0)<|ai tt<|ai tt<|ai (rI v0_5)<|cw h fun y9 h10 h=>ai (aZ (I) h10)<|ai tt<|ai tt<|ai tt<|ai (rfl:Z0)<|ai tt<|ai tt<|aV h fun w11 h=>ai w11<|ai tt<|sI h fun j12 h13 h=>ai h13<|cw h fun y14 h15 h=>ai (aZ (I) h15)<|ai tt<|ai tt<|bQ h (fun h16 h=>ai (decide_eq_true h16)<|L h) (fun h16 h=>ai (decide_eq_false h16)<|aV h fun w17 h=>ai w17<|L h)) (fun h8 h=>ai (decide_eq_false h8)<|L h)
abbrev zT(a0:aa)(a1:bq)(r:Int):aR×HP:=(.ret (I r),H0)
def lX(a1:bq):Option Int:=
 (gv a0 a1.Owner).bind fun (r1:Bool)=>
 if r1=true then
  if 6<(a1.Names.length:Int) then
   some 2
  else
   (dh a1.Names a0).bind fun (r5:Bool)=>
   if r5=true then
    some 5
   else
    (lp (fun v=>dt a1 v) 1).bind fun (x8:(Unit⊕(Nat×Bool)))=>match x8 with
    | .inl ya_9=>
     some 4
    | .inr yb_9=>
     some 0
 else
  some 5
theorem wH(a1:bq)(r:Int)(h:lX a0 a1=some r):call G Ω0 E0 72 [(.a [(I a0.Many),(.l 93 (a0.Grants.map ax))]),(.a [(I a1.Owner),(.l 3 (a1.Names.map (I)))])] H0=some (zT a0 a1 r):=
 aH Um (iI<|xB fun r1=>.or (bf<|bt<|ao (.i (a1.Names.length:Int))<|oN (bt<|xB fun r5=>oN (.or (.ex fun (ya_9:Unit)=>ao (.lp .ret ⟨[(4,(I 4))],[],H0⟩)<|.nil) (.ex fun (yb_9:(Nat×Bool))=>ao (.lp (.ex 1) ⟨[(3,(.p ⟨0,3⟩ 0)),(5,(I (yb_9.1:Int))),(26,(.b yb_9.2))],[(3,[(I a1.Owner),(.l 3 (a1.Names.map (I)))])],H0⟩)<|.nil)))) (bt<|.nil)) fun L=>ai tt<|ai tt<|ai (rfl:Z0)<|ai (rfl:Z0)<|aJ h (jl a0 a1.Owner) fun r1 h=>bb h (fun h3 h=>p9 (congrArg not h3)<|ai (ay (I) a1.Names)<|bQ h (fun h4 h=>ai (decide_eq_true h4)<|L h) (fun h4 h=>Js (decide_eq_false h4)<|aJ h (jK a1.Names a0) fun r5 h=>bb h (fun h7 h=>ai h7<|L h) (fun h7 h=>ai h7<|dT h (gu (wG a1) 1) (fun ya_9 h=>L h) (fun yb_9 h=>L h)))) (fun h3 h=>ai (congrArg not h3)<|L h)
end
section
variable (a0:aa)(a1:Label)
def ea(a1:Label)(v0_16:Nat)(y2:(List bq))(v1_25:Nat):Option (Nat⊕(Int⊕(Nat×Bool))):=
 if (v1_25:Int)<(y2.length:Int) then
  (y2[v1_25]?).bind fun (y6:bq)=>
  (lX a0 y6).bind fun (r8:Int)=>
  if (r8 !=0)=true then
   some (.inr (.inl r8))
  else
   if IntKind.i64.wrap ((v1_25:Int)+1)=((v1_25+1:Nat):Int) then
    some (.inl (v1_25+1))
   else none
 else
  some (.inr (.inr (v1_25,decide ((v1_25:Int)<(y2.length:Int)))))
abbrev zU(v0_16:Nat)(y2:(List bq))(v:Nat):St:=⟨[(2,(.p ⟨0,2⟩ 0)),(14,(.l 58 (([a1.Read,a1.Write]).map (bM 95 aK)))),(15,(I ((([a1.Read,a1.Write]).length:Nat):Int))),(16,(I (v0_16:Int))),(23,(.l 95 (y2.map aK))),(24,(I (y2.length:Int))),(25,(I (v:Int)))],[(2,[(I a0.Many),(.l 93 (a0.Grants.map ax))])],H0⟩
abbrev zV(v0_16:Nat)(y2:(List bq))(x:(Int⊕(Nat×Bool))):aE×St:=match x with | .inl z1=>(.ret,⟨[(4,(I z1))],[],H0⟩) | .inr (z1,z2)=>((.ex 2),⟨[(2,(.p ⟨0,2⟩ 0)),(14,(.l 58 (([a1.Read,a1.Write]).map (bM 95 aK)))),(15,(I ((([a1.Read,a1.Write]).length:Nat):Int))),(16,(I (v0_16:Int))),(23,(.l 95 (y2.map aK))),(24,(I (y2.length:Int))),(25,(I (z1:Int))),(26,(.b z2))],[(2,[(I a0.Many),(.l 93 (a0.Grants.map ax))])],H0⟩)
theorem yD(v0_16:Nat)(y2:(List bq))(v1_25:Nat)(o:Nat⊕(Int⊕(Nat×Bool)))(h:ea a0 a1 v0_16 y2 v1_25=some o):bG E0 I1 (zU a0 a1 v0_16 y2) (zV a0 a1 v0_16 y2) v1_25 o:=
 bO (.or (bt<|ao (.n v1_25)<|.ex fun (y6:bq)=>ao (.v (.a [(I y6.Owner),(.l 3 (y6.Names.map (I)))]))<|uM<|xI fun r8=>oN (ao (.i ((v1_25+1:Nat):Int))<|.nil)) (bf<|.nil)) fun L=>bQ h (fun h5 h=>ai (decide_eq_true h5)<|ai (rI v1_25)<|cw h fun y6 h7 h=>ai (aZ aK h7)<|ai tt<|ai ff<|ai (rfl:Z0)<|ai tt<|ai (rfl:Z0)<|ai (rfl:Z0)<|ai (rfl:Z0)<|aJ h (wH a0 y6) fun r8 h=>bb h (fun h10 h=>ai h10<|L h) (fun h10 h=>ai h10<|aV h fun w11 h=>ai w11<|L h)) (fun h5 h=>ai (decide_eq_false h5)<|L h)
def bj(v0_16:Nat):Option (Nat⊕(Unit⊕(Int⊕(Nat×Bool)))):=
 if (v0_16:Int)<((([a1.Read,a1.Write]).length:Nat):Int) then
  (([a1.Read,a1.Write])[v0_16]?).bind fun (y2:(List bq))=>
  if 4<(y2.length:Int) then
   some (.inr (.inl ()))
  else
   (lp (fun v=>ea a0 a1 v0_16 y2 v) 0).bind fun (x5:(Int⊕(Nat×Bool)))=>match x5 with
   | .inl ya_6=>
    some (.inr (.inr (.inl ya_6)))
   | .inr yb_6=>
    if IntKind.i64.wrap ((v0_16:Int)+1)=((v0_16+1:Nat):Int) then
     some (.inl (v0_16+1))
    else none
 else
  some (.inr (.inr (.inr (v0_16,decide ((v0_16:Int)<((([a1.Read,a1.Write]).length:Nat):Int))))))
abbrev zW(v:Nat):St:=⟨[(2,(.p ⟨0,2⟩ 0)),(14,(.l 58 (([a1.Read,a1.Write]).map (bM 95 aK)))),(15,(I ((([a1.Read,a1.Write]).length:Nat):Int))),(16,(I (v:Int)))],[(2,[(I a0.Many),(.l 93 (a0.Grants.map ax))])],H0⟩
abbrev zX(x:(Unit⊕(Int⊕(Nat×Bool)))):aE×St:=match x with | .inl ()=>(.ret,⟨[(4,(I 2))],[],H0⟩) | .inr (.inl z1)=>(.ret,⟨[(4,(I z1))],[],H0⟩) | .inr (.inr (z1,z2))=>((.ex 0),⟨[(2,(.p ⟨0,2⟩ 0)),(14,(.l 58 (([a1.Read,a1.Write]).map (bM 95 aK)))),(15,(I ((([a1.Read,a1.Write]).length:Nat):Int))),(16,(I (z1:Int))),(17,(.b z2))],[(2,[(I a0.Many),(.l 93 (a0.Grants.map ax))])],H0⟩)
theorem yE(v0_16:Nat)(o:Nat⊕(Unit⊕(Int⊕(Nat×Bool))))(h:bj a0 a1 v0_16=some o):bG E0 I2 (zW a0 a1) (zX a0 a1) v0_16 o:=
 bO (.or (bt<|ao (.n v0_16)<|.ex fun (y2:(List bq))=>ao (.v (.l 95 (y2.map aK)))<|ao (.i (y2.length:Int))<|oN (ao (.i (y2.length:Int))<|.or (.ex fun (ya_6:Int)=>ao (.lp .ret ⟨[(4,(I ya_6))],[],H0⟩)<|.nil) (.ex fun (yb_6:(Nat×Bool))=>ao (.lp (.ex 2) ⟨[(2,(.p ⟨0,2⟩ 0)),(14,(.l 58 (([a1.Read,a1.Write]).map (bM 95 aK)))),(15,(I ((([a1.Read,a1.Write]).length:Nat):Int))),(16,(I (v0_16:Int))),(23,(.l 95 (y2.map aK))),(24,(I (y2.length:Int))),(25,(I (yb_6.1:Int))),(26,(.b yb_6.2))],[(2,[(I a0.Many),(.l 93 (a0.Grants.map ax))])],H0⟩)<|ao (.i ((v0_16+1:Nat):Int))<|.nil))) (bf<|.nil)) fun L=>bQ h (fun h1 h=>ai (decide_eq_true h1)<|ai (rI v0_16)<|cw h fun y2 h3 h=>ai (aZ (bM 95 aK) h3)<|ai (ay aK y2)<|bQ h (fun h4 h=>ai (decide_eq_true h4)<|L h) (fun h4 h=>ai (decide_eq_false h4)<|ai (ay aK y2)<|dT h (gu (yD a0 a1 v0_16 y2) 0) (fun ya_6 h=>L h) (fun yb_6 h=>aV h fun w8 h=>ai w8<|L h))) (fun h1 h=>ai (decide_eq_false h1)<|L h)
abbrev Cs(a0:aa)(a1:Label)(r:Int):aR×HP:=(.ret (I r),H0)
def la:Option Int:=
 (lp (fun v=>bj a0 a1 v) 0).bind fun (x1:(Unit⊕(Int⊕(Nat×Bool))))=>match x1 with
 | .inl ya_2=>
  some 2
 | .inr (.inl yb_2)=>
  some yb_2
 | .inr (.inr yc_2)=>
  some 0
theorem sf(r:Int)(h:la a0 a1=some r):call G Ω0 E0 42 [(.a [(I a0.Many),(.l 93 (a0.Grants.map ax))]),(.a [(.l 95 (a1.Read.map aK)),(.l 95 (a1.Write.map aK))])] H0=some (Cs a0 a1 r):=
 aH TS (iI<|ao (.l (([a1.Read,a1.Write]).map (bM 95 aK)))<|ao (.i ((([a1.Read,a1.Write]).length:Nat):Int))<|.or (.ex fun (ya_2:Unit)=>ao (.lp .ret ⟨[(4,(I 2))],[],H0⟩)<|.nil) (.or (.ex fun (yb_2:Int)=>ao (.lp .ret ⟨[(4,(I yb_2))],[],H0⟩)<|.nil) (.ex fun (yc_2:(Nat×Bool))=>ao (.lp (.ex 0) ⟨[(2,(.p ⟨0,2⟩ 0)),(14,(.l 58 (([a1.Read,a1.Write]).map (bM 95 aK)))),(15,(I ((([a1.Read,a1.Write]).length:Nat):Int))),(16,(I (yc_2.1:Int))),(17,(.b yc_2.2))],[(2,[(I a0.Many),(.l 93 (a0.Grants.map ax))])],H0⟩)<|.nil))) fun L=>ai tt<|ai tt<|ai (rfl:Z0)<|ai (rfl:Z0)<|ai (rfl:[(.l 95 (a1.Read.map aK)),(.l 95 (a1.Write.map aK))]=([a1.Read,a1.Write]).map (bM 95 aK))<|ai (ay (bM 95 aK) ([a1.Read,a1.Write]))<|Jq h (gu (yE a0 a1) 0) (fun ya_2 h=>L h) (fun yb_2 h=>L h) (fun yc_2 h=>L h)
end
section
variable (a0:Var)
abbrev zY(a0:Var)(r:Bool):aR×HP:=(.ret (.b r),H0)
def lZ:Option Bool:=
 if a0.Known=true then
  some false
 else
  if IntKind.i64.wrap ((a0.Label.Read.length:Int)+(a0.Label.Write.length:Int))=(a0.Label.Read.length:Int)+(a0.Label.Write.length:Int) then
   some (decide (0<((a0.Label.Read.length:Int)+(a0.Label.Write.length:Int))))
  else none
theorem wI(r:Bool)(h:lZ a0=some r):call G Ω0 E0 60 [(.a (HK a0))] H0=some (zY a0 r):=
 aH Ud (bt<|.or (Ml<|.nil) (oi<|ao (.i (a0.Label.Read.length:Int))<|oi<|ao (.i (a0.Label.Write.length:Int))<|bt<|ao (.i ((a0.Label.Read.length:Int)+(a0.Label.Write.length:Int)))<|iI<|.nil)) fun L=>ai tt<|ai (rfl:Z0)<|bb h (fun h1 h=>ai (g1 (congrArg not h1))<|ai (g1 (congrArg not h1))<|ai (g1 (congrArg not h1))<|ai (g1 (congrArg not h1))<|ai (g1 (congrArg not h1))<|ai (g1 (congrArg not h1))<|ai (g1 (congrArg not h1))<|ai (g1 (congrArg not h1))<|ai (g1 (congrArg not h1))<|ai (g1 (congrArg not h1))<|ai (congrArg not h1)<|L h) (fun h1 h=>ai (g1 (congrArg not h1))<|ai (g1 (congrArg not h1))<|ai (g1 (congrArg not h1))<|ai (rfl:Z0)<|ai (g1 (congrArg not h1))<|ai (ay aK a0.Label.Read)<|ai (g1 (congrArg not h1))<|ai (g1 (congrArg not h1))<|ai (g1 (congrArg not h1))<|ai (rfl:Z0)<|ai (g1 (congrArg not h1))<|ai (ay aK a0.Label.Write)<|ai (g1 (congrArg not h1))<|aV h fun w2 h=>ai w2<|Ei (congrArg not h1)<|L h)
end
section
variable (a0:(List Var))
def fS(v0_8:Nat):Option (Nat⊕(Nat⊕(Nat×Bool))):=
 if (v0_8:Int)<(a0.length:Int) then
  (a0[v0_8]?).bind fun (y2:Var)=>
  (lZ y2).bind fun (r4:Bool)=>
  if r4=true then
   some (.inr (.inl v0_8))
  else
   if IntKind.i64.wrap ((v0_8:Int)+1)=((v0_8+1:Nat):Int) then
    some (.inl (v0_8+1))
   else none
 else
  some (.inr (.inr (v0_8,decide ((v0_8:Int)<(a0.length:Int)))))
abbrev mN(v:Nat):St:=⟨[(0,(.l 67 (a0.map bB))),(1,(.f 60 [])),(7,(I (a0.length:Int))),(8,(I (v:Int)))],[],H0⟩
abbrev mO(x:(Nat⊕(Nat×Bool))):aE×St:=match x with | .inl z1=>(.ret,⟨[(4,(I (z1:Int)))],[],H0⟩) | .inr (z1,z2)=>((.ex 0),⟨[(0,(.l 67 (a0.map bB))),(1,(.f 60 [])),(7,(I (a0.length:Int))),(8,(I (z1:Int))),(9,(.b z2))],[],H0⟩)
theorem l6(v0_8:Nat)(o:Nat⊕(Nat⊕(Nat×Bool)))(h:fS a0 v0_8=some o):bG E0 Jj (mN a0) (mO a0) v0_8 o:=
 bO (.or (bt<|ao (.n v0_8)<|.ex fun (y2:Var)=>ao (.v (.a (HK y2)))<|xB fun r4=>oN (ao (.i ((v0_8+1:Nat):Int))<|.nil)) (bf<|.nil)) fun L=>bQ h (fun h1 h=>ai (decide_eq_true h1)<|ai (rI v0_8)<|cw h fun y2 h3 h=>ai (aZ bB h3)<|aJ h (wI y2) fun r4 h=>bb h (fun h6 h=>ai h6<|L h) (fun h6 h=>ai h6<|aV h fun w7 h=>ai w7<|L h)) (fun h1 h=>ai (decide_eq_false h1)<|L h)
abbrev nK(a0:(List Var))(r:Int):aR×HP:=(.ret (I r),H0)
def gP:Option Int:=
 (lp (fun v=>fS a0 v) 0).bind fun (x1:(Nat⊕(Nat×Bool)))=>match x1 with
 | .inl ya_2=>
  some (ya_2:Int)
 | .inr yb_2=>
  some (-1)
theorem l7(r:Int)(h:gP a0=some r):call G Ω0 E0 77 [(.l 67 (a0.map bB)),(.f 60 [])] H0=some (nK a0 r):=
 aH Uo (ao (.i (a0.length:Int))<|.or (.ex fun (ya_2:Nat)=>ao (.lp .ret ⟨[(4,(I (ya_2:Int)))],[],H0⟩)<|.nil) (.ex fun (yb_2:(Nat×Bool))=>ao (.lp (.ex 0) ⟨[(0,(.l 67 (a0.map bB))),(1,(.f 60 [])),(7,(I (a0.length:Int))),(8,(I (yb_2.1:Int))),(9,(.b yb_2.2))],[],H0⟩)<|.nil)) fun L=>ai (ay bB a0)<|dT h (gu (l6 a0) 0) (fun ya_2 h=>L h) (fun yb_2 h=>L h)
abbrev l8(a0:(List Var))(r:Bool):aR×HP:=(.ret (.b r),H0)
def dC:Option Bool:=
 (gP a0).bind fun (r1:Int)=>
 some (decide (0≤r1))
theorem kh(r:Bool)(h:dC a0=some r):call G Ω0 E0 59 [(.l 67 (a0.map bB)),(.f 60 [])] H0=some (l8 a0 r):=
 aH Uc (xI fun r1=>.nil) fun L=>aJ h (l7 a0) fun r1 h=>L h
def sg:List cV:=(gM 38 37)::⟨some 39,.fa 2 1,some ⟨38,false⟩,false⟩::⟨some 40,.ld none 39,some ⟨38,false⟩,false⟩::⟨some 41,.ln false 40,some ⟨38,false⟩,false⟩::⟨some 42,.fa 0 1,some ⟨38,false⟩,false⟩::⟨some 43,.fa 0 42,some ⟨38,false⟩,false⟩::⟨some 44,.ld none 43,some ⟨38,false⟩,false⟩::⟨some 45,.bo .gtr false 41 44,some ⟨38,false⟩,false⟩::(gp 46 (.pk 38 (.c (.b true)) 45))::[]
end
section
variable (a0:Program)
def fC(u2_1:Bool):Option Bool:=
 if u2_1=true then
  some true
 else
  some (decide (a0.aa.Many<(a0.Speak.length:Int)))
abbrev yF(u2_1:Bool)(x:Bool):St:=⟨[(1,(.p ⟨0,1⟩ 0)),(46,(.b x))],[(1,(an a0))],H0⟩
theorem jL(u2_1:Bool)(w:List AV)(x:Bool)(h:fC a0 u2_1=some x):jF G Ω0 E0 [1,46] [1] sg ⟨[(37,(.b u2_1)),(36,(W w 0)),(35,(W w 1)),(34,(W w 2)),(33,(W w 3)),(32,(W w 4)),(31,(W w 5)),(30,(W w 6)),(29,(W w 7)),(28,(W w 8)),(27,(W w 9)),(26,(W w 10)),(25,(W w 11)),(24,(W w 12)),(23,(W w 13)),(22,(W w 14)),(21,(W w 15)),(20,(.b (decide (16<(a0.Vars.length:Int))))),(19,(.b (decide (16<(a0.Vars.length:Int))))),(18,(I (a0.Vars.length:Int))),(17,(.l 67 (a0.Vars.map bB))),(16,(.p ⟨0,1⟩ 5)),(1,(.p ⟨0,1⟩ 0))],[(1,(an a0))],H0⟩=some (yF a0 u2_1 x):=
 jk (.or (bf<|bf<|bf<|bf<|bf<|bf<|bf<|bt<|.nil) (uM<|ao (.i (a0.Speak.length:Int))<|bt<|bt<|bt<|bt<|bt<|bf<|.nil)) fun L=>bb h (fun h7 h=>ai (g0 h7)<|ai (g0 h7)<|ai (g0 h7)<|ai (g0 h7)<|ai (g0 h7)<|ai (g0 h7)<|ai (g0 h7)<|ai h7<|L h) (fun h7 h=>Ej h7<|ai (ay (I) a0.Speak)<|ai (g0 h7)<|ai (g0 h7)<|ai (g0 h7)<|ai (rfl:Z0)<|ai (g0 h7)<|ai h7<|L h)
def yG:List cV:=(gF 16 5 1)::(gQ 17 16)::(gp 18 (.ln false 17))::(gB 19 .gtr 18 (kI 16))::(gM 20 19)::⟨some 21,.fa 3 1,some ⟨20,false⟩,false⟩::⟨some 22,.ld none 21,some ⟨20,false⟩,false⟩::⟨some 23,.ln false 22,some ⟨20,false⟩,false⟩::⟨some 24,.bo .gtr false 23 (kI 5),some ⟨20,false⟩,false⟩::(gp 25 (.pk 20 (.c (.b true)) 24))::(gM 26 25)::⟨some 27,.fa 4 1,some ⟨26,false⟩,false⟩::⟨some 28,.ld none 27,some ⟨26,false⟩,false⟩::⟨some 29,.ln false 28,some ⟨26,false⟩,false⟩::⟨some 30,.bo .gtr false 29 (kI 5),some ⟨26,false⟩,false⟩::(gp 31 (.pk 26 (.c (.b true)) 30))::(gM 32 31)::⟨some 33,.fa 6 1,some ⟨32,false⟩,false⟩::⟨some 34,.ld none 33,some ⟨32,false⟩,false⟩::⟨some 35,.ln false 34,some ⟨32,false⟩,false⟩::⟨some 36,.bo .gtr false 35 (kI 5),some ⟨32,false⟩,false⟩::(gp 37 (.pk 32 (.c (.b true)) 36))::sg
def kz:Option Bool:=
 if 16<(a0.Vars.length:Int) then
  (fC a0 true).bind fun (x5:Bool)=>
  some x5
 else
  if 5<(a0.Ins.length:Int) then
   (fC a0 true).bind fun (x6:Bool)=>
   some x6
  else
   if 5<(a0.Outs.length:Int) then
    (fC a0 true).bind fun (x7:Bool)=>
    some x7
   else
    (fC a0 (decide (5<(a0.Funcs.length:Int)))).bind fun (x7:Bool)=>
    some x7
abbrev yH(x:Bool):St:=⟨[(1,(.p ⟨0,1⟩ 0)),(46,(.b x))],[(1,(an a0))],H0⟩
theorem xr(x:Bool)(h:kz a0=some x):jF G Ω0 E0 [1,46] [1] yG ⟨[(1,(.p ⟨0,1⟩ 0))],[(1,(an a0))],H0⟩=some (yH a0 x):=
 jk (bt<|ao (.i (a0.Vars.length:Int))<|.or (bf<|bf<|bf<|bf<|bt<|bf<|bf<|bf<|bf<|bt<|bf<|bf<|bf<|bf<|bt<|.jb (some 38) 8<|.ex fun (x5:Bool)=>ao (.jn ⟨[(1,(.p ⟨0,1⟩ 0)),(46,(.b x5))],[(1,(an a0))],H0⟩)<|.nil) (uM<|ao (.i (a0.Ins.length:Int))<|sd<|.or (Mm<|.jb (some 38) 8<|.ex fun (x6:Bool)=>ao (.jn ⟨[(1,(.p ⟨0,1⟩ 0)),(46,(.b x6))],[(1,(an a0))],H0⟩)<|.nil) (uM<|ao (.i (a0.Outs.length:Int))<|sd<|.or (yz<|.jb (some 38) 8<|.ex fun (x7:Bool)=>ao (.jn ⟨[(1,(.p ⟨0,1⟩ 0)),(46,(.b x7))],[(1,(an a0))],H0⟩)<|.nil) (uM<|ao (.i (a0.Funcs.length:Int))<|sd<|.jb (some 38) 8<|.ex fun (x7:Bool)=>ao (.jn ⟨[(1,(.p ⟨0,1⟩ 0)),(46,(.b x7))],[(1,(an a0))],H0⟩)<|.nil)))) fun L=>ai (rfl:Z0)<|ai (ay bB a0.Vars)<|bQ h (fun h4 h=>ai (g0 (decide_eq_true h4))<|ai (g0 (decide_eq_true h4))<|ai (g0 (decide_eq_true h4))<|ai (g0 (decide_eq_true h4))<|ai (decide_eq_true h4)<|ai ht<|ai ht<|ai ht<|ai ht<|ai tt<|ai ht<|ai ht<|ai ht<|ai ht<|ai tt<|aJ h (jL a0 true [.sk,.sk,.sk,.sk,(.b true),(.b true),.sk,.sk,.sk,.sk,(.b true),(.b true),.sk,.sk,.sk,.sk]) fun x5 h=>L h) (fun h4 h=>Ej (decide_eq_false h4)<|ai (ay ar a0.Ins)<|uL (decide_eq_false h4)<|bQ h (fun h5 h=>ai (g0 (decide_eq_true h5))<|ai (g0 (decide_eq_true h5))<|ai (g0 (decide_eq_true h5))<|ai (g0 (decide_eq_true h5))<|ai (decide_eq_true h5)<|ai ht<|ai ht<|ai ht<|ai ht<|ai tt<|aJ h (jL a0 true [.sk,.sk,.sk,.sk,(.b true),(.b true),.sk,.sk,.sk,.sk,(.b (decide (5<(a0.Ins.length:Int)))),(.b (decide (5<(a0.Ins.length:Int)))),(.b (decide (5<(a0.Ins.length:Int)))),(I (a0.Ins.length:Int)),(.l 60 (a0.Ins.map ar)),(.p ⟨0,1⟩ 3)]) fun x6 h=>L h) (fun h5 h=>Ej (decide_eq_false h5)<|ai (ay ar a0.Outs)<|uL (decide_eq_false h5)<|bQ h (fun h6 h=>yw (decide_eq_true h6)<|aJ h (jL a0 true [.sk,.sk,.sk,.sk,(.b (decide (5<(a0.Outs.length:Int)))),(.b (decide (5<(a0.Outs.length:Int)))),(.b (decide (5<(a0.Outs.length:Int)))),(I (a0.Outs.length:Int)),(.l 60 (a0.Outs.map ar)),(.p ⟨0,1⟩ 4),(.b (decide (5<(a0.Ins.length:Int)))),(.b (decide (5<(a0.Ins.length:Int)))),(.b (decide (5<(a0.Ins.length:Int)))),(I (a0.Ins.length:Int)),(.l 60 (a0.Ins.map ar)),(.p ⟨0,1⟩ 3)]) fun x7 h=>L h) (fun h6 h=>Ej (decide_eq_false h6)<|ai (ay bC a0.Funcs)<|uL (decide_eq_false h6)<|aJ h (jL a0 (decide (5<(a0.Funcs.length:Int))) [(.b (decide (5<(a0.Funcs.length:Int)))),(I (a0.Funcs.length:Int)),(.l 85 (a0.Funcs.map bC)),(.p ⟨0,1⟩ 6),(.b (decide (5<(a0.Outs.length:Int)))),(.b (decide (5<(a0.Outs.length:Int)))),(.b (decide (5<(a0.Outs.length:Int)))),(I (a0.Outs.length:Int)),(.l 60 (a0.Outs.map ar)),(.p ⟨0,1⟩ 4),(.b (decide (5<(a0.Ins.length:Int)))),(.b (decide (5<(a0.Ins.length:Int)))),(.b (decide (5<(a0.Ins.length:Int)))),(I (a0.Ins.length:Int)),(.l 60 (a0.Ins.map ar)),(.p ⟨0,1⟩ 3)]) fun x7 h=>L h)))
def jo(r10:(List Label))(v0_58:Nat):Option (Nat⊕(Int⊕(Nat×Bool))):=
 if (v0_58:Int)<(r10.length:Int) then
  (r10[v0_58]?).bind fun (y13:Label)=>
  (la a0.aa y13).bind fun (r15:Int)=>
  if (r15 !=0)=true then
   some (.inr (.inl r15))
  else
   if IntKind.i64.wrap ((v0_58:Int)+1)=((v0_58+1:Nat):Int) then
    some (.inl (v0_58+1))
   else none
 else
  some (.inr (.inr (v0_58,decide ((v0_58:Int)<(r10.length:Int)))))
abbrev zZ(r10:(List Label))(v:Nat):St:=⟨[(1,(.e (.a (an a0)) 0)),(56,(.l 60 (r10.map ar))),(57,(I (r10.length:Int))),(58,(I (v:Int)))],[],H0⟩
abbrev z6(r10:(List Label))(x:(Int⊕(Nat×Bool))):aE×St:=match x with | .inl z1=>(.ret,⟨[(2,(I z1))],[],H0⟩) | .inr (z1,z2)=>((.ex 0),⟨[(1,(.e (.a (an a0)) 0)),(56,(.l 60 (r10.map ar))),(57,(I (r10.length:Int))),(58,(I (z1:Int))),(59,(.b z2))],[],H0⟩)
theorem yI(r10:(List Label))(v0_58:Nat)(o:Nat⊕(Int⊕(Nat×Bool)))(h:jo a0 r10 v0_58=some o):bG E0 IS (zZ a0 r10) (z6 a0 r10) v0_58 o:=
 bO (.or (bt<|ao (.n v0_58)<|.ex fun (y13:Label)=>ao (.v (.a [(.l 95 (y13.Read.map aK)),(.l 95 (y13.Write.map aK))]))<|fO<|xI fun r15=>oN (ao (.i ((v0_58+1:Nat):Int))<|.nil)) (bf<|.nil)) fun L=>bQ h (fun h12 h=>ai (decide_eq_true h12)<|ai (rI v0_58)<|cw h fun y13 h14 h=>ai (aZ ar h14)<|Gm<|aJ h (sf a0.aa y13) fun r15 h=>bb h (fun h17 h=>ai h17<|L h) (fun h17 h=>ai h17<|aV h fun w18 h=>ai w18<|L h)) (fun h12 h=>ai (decide_eq_false h12)<|L h)
def jq(v1_73:Nat):Option (Nat⊕(Int⊕(Nat×Bool))):=
 if (v1_73:Int)<(a0.Vars.length:Int) then
  (a0.Vars[v1_73]?).bind fun (y16:Var)=>
  (la a0.aa y16.Label).bind fun (r18:Int)=>
  if (r18 !=0)=true then
   some (.inr (.inl r18))
  else
   if IntKind.i64.wrap ((v1_73:Int)+1)=((v1_73+1:Nat):Int) then
    some (.inl (v1_73+1))
   else none
 else
  some (.inr (.inr (v1_73,decide ((v1_73:Int)<(a0.Vars.length:Int)))))
abbrev z7(v:Nat):St:=⟨[(1,(.e (.a (an a0)) 0)),(71,(.l 67 (a0.Vars.map bB))),(72,(I (a0.Vars.length:Int))),(73,(I (v:Int)))],[],H0⟩
abbrev z8(x:(Int⊕(Nat×Bool))):aE×St:=match x with | .inl z1=>(.ret,⟨[(2,(I z1))],[],H0⟩) | .inr (z1,z2)=>((.ex 2),⟨[(1,(.e (.a (an a0)) 0)),(71,(.l 67 (a0.Vars.map bB))),(72,(I (a0.Vars.length:Int))),(73,(I (z1:Int))),(74,(.b z2))],[],H0⟩)
theorem yJ(v1_73:Nat)(o:Nat⊕(Int⊕(Nat×Bool)))(h:jq a0 v1_73=some o):bG E0 IT (z7 a0) (z8 a0) v1_73 o:=
 bO (.or (bt<|ao (.n v1_73)<|.ex fun (y16:Var)=>ao (.v (.a (HK y16)))<|fO<|xI fun r18=>oN (ao (.i ((v1_73+1:Nat):Int))<|.nil)) (bf<|.nil)) fun L=>bQ h (fun h15 h=>ai (decide_eq_true h15)<|ai (rI v1_73)<|cw h fun y16 h17 h=>ai (aZ bB h17)<|Gm<|aJ h (sf a0.aa y16.Label) fun r18 h=>bb h (fun h20 h=>ai h20<|L h) (fun h20 h=>ai h20<|aV h fun w21 h=>ai w21<|L h)) (fun h15 h=>ai (decide_eq_false h15)<|L h)
abbrev Ct(a0:Program)(r:Int):aR×HP:=(.ret (I r),H0)
def om:Option Int:=
 (jm a0.aa).bind fun (r1:Int)=>
 if (r1 !=0)=true then
  some r1
 else
  (kz a0).bind fun (x4:Bool)=>
  if x4=true then
   some 2
  else
   (dB a0.Speak a0).bind fun (r7:Bool)=>
   if r7=true then
    some 5
   else
    (eg ([a0.Ins,a0.Outs])).bind fun (r10:(List Label))=>
    (lp (fun v=>jo a0 r10 v) 0).bind fun (x12:(Int⊕(Nat×Bool)))=>match x12 with
    | .inl ya_13=>
     some ya_13
    | .inr yb_13=>
     (lp (fun v=>jq a0 v) 0).bind fun (x15:(Int⊕(Nat×Bool)))=>match x15 with
     | .inl ya_16=>
      some ya_16
     | .inr yb_16=>
      (dC a0.Vars).bind fun (r18:Bool)=>
      if r18=true then
       some 1
      else
       some 0
theorem yK(r:Int)(h:om a0=some r):call G Ω0 E0 30 [(.a (an a0))] H0=some (Ct a0 r):=
 aH TG (bt<|xI fun r1=>oN (.jb (some 16) 30<|.ex fun (x4:Bool)=>ao (.jn ⟨[(1,(.p ⟨0,1⟩ 0)),(46,(.b x4))],[(1,(an a0))],H0⟩)<|oN (xB fun r7=>oN (ao (.l (([a0.Ins,a0.Outs]).map (bM 60 ar)))<|.ex fun (r10:(List Label))=>ao (.v (.l 60 (r10.map ar)))<|ao (.i (r10.length:Int))<|.or (.ex fun (ya_13:Int)=>ao (.lp .ret ⟨[(2,(I ya_13))],[],H0⟩)<|.nil) (.ex fun (yb_13:(Nat×Bool))=>ao (.lp (.ex 0) ⟨[(1,(.e (.a (an a0)) 0)),(56,(.l 60 (r10.map ar))),(57,(I (r10.length:Int))),(58,(I (yb_13.1:Int))),(59,(.b yb_13.2))],[],H0⟩)<|ao (.i (a0.Vars.length:Int))<|.or (.ex fun (ya_16:Int)=>ao (.lp .ret ⟨[(2,(I ya_16))],[],H0⟩)<|.nil) (.ex fun (yb_16:(Nat×Bool))=>ao (.lp (.ex 2) ⟨[(1,(.e (.a (an a0)) 0)),(71,(.l 67 (a0.Vars.map bB))),(72,(I (a0.Vars.length:Int))),(73,(I (yb_16.1:Int))),(74,(.b yb_16.2))],[],H0⟩)<|xB fun r18=>oN (.nil))))))) fun L=>ai tt<|ai (rfl:Z0)<|aJ h (qa a0.aa) fun r1 h=>bb h (fun h3 h=>ai h3<|L h) (fun h3 h=>ai h3<|aJ h (xr a0) fun x4 h=>bb h (fun h6 h=>ai h6<|L h) (fun h6 h=>p9 h6<|aJ h (kg a0.Speak a0) fun r7 h=>bb h (fun h9 h=>ai h9<|L h) (fun h9 h=>ai h9<|ai (rfl:[(.l 60 (a0.Ins.map ar)),(.l 60 (a0.Outs.map ar))]=([a0.Ins,a0.Outs]).map (bM 60 ar))<|aJ h (oU ([a0.Ins,a0.Outs])) fun r10 h=>ai (ay ar r10)<|dT h (gu (yI a0 r10) 0) (fun ya_13 h=>L h) (fun yb_13 h=>ai (ay bB a0.Vars)<|dT h (gu (yJ a0) 0) (fun ya_16 h=>L h) (fun yb_16 h=>aJ h (kh a0.Vars) fun r18 h=>bb h (fun h20 h=>ai h20<|L h) (fun h20 h=>ai h20<|L h))))))
end
section
variable (dp:Nat)(hp:HP)(k0:Key)
abbrev Bu(dp:Nat)(hp:HP)(k0:Key)(a0:Stmt)(a1:Int)(c0:Int)(r:(Bool×Int)):aR×HP:=(.ret (.b r.1),aj hp k0 [(I r.2)])
def pS(a0:Stmt)(a1:Int)(c0:Int):Option (Bool×Int):=
 if IntKind.i64.wrap (c0+1)=c0+1 then
  if (c0+1)≤50 then
   some ((decide (a1≤6)),(c0+1))
  else
   some (false,(c0+1))
 else none
theorem xt(hk_k0:k0.dp<dp)(hz:aS dp hp)(a0:Stmt)(a1:Int)(c0:Int)(r:(Bool×Int))(h:pS a0 a1 c0=some r):call G Ω0 ⟨dp,false⟩ 61 [(.a (av a0)),(I a1),(.p k0 0)] (aj hp k0 [(I c0)])=some (Bu dp hp k0 a0 a1 c0 r):=
 aH Ue (bf<|ao (.l [(I c0)])<|ao (.i (c0+1))<|bf<|ao (.l [(I c0)])<|bf<|ao (.h (aj hp k0 [(I (c0+1))]))<|bf<|ao (.l [(I (c0+1))])<|.or (fO<|.nil) (AZ<|.nil)) fun L=>ai ((by simp [av,AV.aW,AV.bR,AV.deep,AV.bN,bH hk_k0,Nat.le_of_lt hk_k0]):(((.a (av a0)):AV).deep dp&&(([(0,(.a (av a0))),(1,(I a1)),(2,(.p k0 0))]:List (Nat×AV)).all (fun y=>y.2.aW ⟨dp,3⟩)&&([]:List (Nat×List AV)).all (fun y=>AV.bR ⟨dp,3⟩ y.2)))=true)<|ai (Nat.ne_of_lt hk_k0)<|ai (cY hp k0 [(I c0)])<|aV h fun w1 h=>ai w1<|ai ff<|ai (Nat.ne_of_lt hk_k0)<|ai (cY hp k0 [(I c0)])<|ai tt<|ai (Nat.ne_of_lt hk_k0)<|ai (jh hp k0 [(I c0)] [(I (c0+1))])<|ai (Nat.ne_of_lt hk_k0)<|ai (cY hp k0 [(I (c0+1))])<|bQ h (fun h2 h=>pz (decide_eq_true h2)<|L h) (fun h2 h=>pz (decide_eq_false h2)<|L h)
end
section
variable (dp:Nat)(hp:HP)(k0:Key)(a0:(List Stmt))(a1:Int)(c0:Int)
abbrev qm(dp:Nat)(hp:HP)(k0:Key)(a0:(List Stmt))(a1:Int)(c0:Int)(r:(Bool×Int)):aR×HP:=(.ret (.b r.1),aj hp k0 [(I r.2)])
abbrev fZ(r:(Bool×Int)):Prop:=call G Ω0 ⟨dp,false⟩ 62 [(.l 74 (a0.map aI)),(I a1),(.f 61 [(.p k0 0)])] (aj hp k0 [(I c0)])=some (qm dp hp k0 a0 a1 c0 r)
end
structure ga where
 f_scope_Walk__scope_few_1:(List Stmt)→Int→Int→Option (Bool×Int)
structure fK(R:ga):Prop where
 f_scope_Walk__scope_few_1:∀ (dp:Nat)(hp:HP)(k0:Key)(hk_k0:k0.dp<dp)(hz:aS dp hp)(a0:(List Stmt))(a1:Int)(c0:Int)(r:(Bool×Int)),R.f_scope_Walk__scope_few_1 a0 a1 c0=some r→fZ dp hp k0 a0 a1 c0 r
section
variable (R:ga)(a0:(List Stmt))(a1:Int)(dp:Nat)(hp:HP)(k0:Key)(c0:Int)
def dP(v0_11:Nat)(v0_k0_0:Int):Option ((Nat×Int)⊕(Int⊕(Nat×Bool×Int))):=
 if (v0_11:Int)<(a0.length:Int) then
  (a0[v0_11]?).bind fun (y2:Stmt)=>
  (pS y2 a1 v0_k0_0).bind fun (r4:(Bool×Int))=>
  if r4.1=true then
   if IntKind.i64.wrap (a1+1)=a1+1 then
    (R.f_scope_Walk__scope_few_1 y2.Then (a1+1) r4.2).bind fun (r8:(Bool×Int))=>
    if r8.1=true then
     (R.f_scope_Walk__scope_few_1 y2.Else (a1+1) r8.2).bind fun (r11:(Bool×Int))=>
     if r11.1=true then
      if IntKind.i64.wrap ((v0_11:Int)+1)=((v0_11+1:Nat):Int) then
       some (.inl (v0_11+1,r11.2))
      else none
     else
      some (.inr (.inl r11.2))
    else
     some (.inr (.inl r8.2))
   else none
  else
   some (.inr (.inl r4.2))
 else
  some (.inr (.inr (v0_11,decide ((v0_11:Int)<(a0.length:Int)),v0_k0_0)))
abbrev pE(dp:Nat)(hp:HP)(k0:Key)(a0:(List Stmt))(a1:Int)(v:(Nat×Int)):St:=⟨[(1,(I a1)),(2,(.f 61 [(.p k0 0)])),(9,(.l 74 (a0.map aI))),(10,(I (a0.length:Int))),(11,(I (v.1:Int)))],[],aj hp k0 [(I v.2)]⟩
abbrev pF(dp:Nat)(hp:HP)(k0:Key)(a0:(List Stmt))(a1:Int)(x:(Int⊕(Nat×Bool×Int))):aE×St:=match x with | .inl z1=>(.ret,⟨[(6,(.b false))],[],aj hp k0 [(I z1)]⟩) | .inr (z1,z2,z3)=>((.ex 0),⟨[(1,(I a1)),(2,(.f 61 [(.p k0 0)])),(9,(.l 74 (a0.map aI))),(10,(I (a0.length:Int))),(11,(I (z1:Int))),(12,(.b z2))],[],aj hp k0 [(I z3)]⟩)
theorem oV(hR:fK R)(dp:Nat)(hp:HP)(k0:Key)(hk_k0:k0.dp<dp)(hz:aS dp hp)(a0:(List Stmt))(a1:Int)(v0_11:Nat)(v0_k0_0:Int)(o:(Nat×Int)⊕(Int⊕(Nat×Bool×Int)))(h:dP R a0 a1 v0_11 v0_k0_0=some o):bG ⟨dp,false⟩ Fi (pE dp hp k0 a0 a1) (pF dp hp k0 a0 a1) (v0_11,v0_k0_0) o:=
 bO (.or (bt<|ao (.n v0_11)<|.ex fun (y2:Stmt)=>ao (.v (.a (av y2)))<|fO<|.ex fun (r4:(Bool×Int))=>ao (.v (.b r4.1))<|ao (.h (boxes dp [(8,(av y2))] (aj hp k0 [(I r4.2)])))<|ao (.bx [(8,(av y2))])<|ao (.h (aj hp k0 [(I r4.2)]))<|.or (oi<|ao (.i (a1+1))<|iI<|.ex fun (r8:(Bool×Int))=>ao (.v (.b r8.1))<|ao (.h (boxes dp [(8,(av y2))] (aj hp k0 [(I r8.2)])))<|ao (.bx [(8,(av y2))])<|ao (.h (aj hp k0 [(I r8.2)]))<|sd<|.or (oi<|ao (.i (a1+1))<|iI<|.ex fun (r11:(Bool×Int))=>ao (.v (.b r11.1))<|ao (.h (boxes dp [(8,(av y2))] (aj hp k0 [(I r11.2)])))<|ao (.bx [(8,(av y2))])<|ao (.h (aj hp k0 [(I r11.2)]))<|sd<|.or (bf<|ao (.i ((v0_11+1:Nat):Int))<|.nil) (bt<|.nil)) (Mn<|.nil)) (Mo<|.nil)) (bf<|.nil)) fun L=>bQ h (fun h1 h=>ai (decide_eq_true h1)<|ai (rI v0_11)<|cw h fun y2 h3 h=>ai (qR aI h3 (jH _))<|ai ((by simp [av,AV.aW,AV.bR,AV.deep,AV.bN,bH hk_k0,Nat.le_of_lt hk_k0]):(([(14,(.a (av y2))),(13,(.e (.a (av y2)) 0)),(1,(I a1)),(2,(.f 61 [(.p k0 0)])),(9,(.l 74 (a0.map aI))),(10,(I (a0.length:Int))),(11,(I (v0_11:Int)))]:List (Nat×AV)).all (fun y=>y.2.aW ⟨dp,8⟩)&&([]:List (Nat×List AV)).all (fun y=>AV.bR ⟨dp,8⟩ y.2))=true)<|ai ff<|ai (rN dp)<|ai tt<|ai (rN dp)<|ai (rN dp)<|ai ff<|ai tt<|cw h fun r4 ek5 h=>have ek5:=cO hk_k0 (xt (dp+1) (boxes dp [(8,(av y2))] (aj hp k0 [(I v0_k0_0)])) k0 (Nat.lt_succ_of_lt hk_k0) (dO (bc hk_k0 (hz))) y2 a1 v0_k0_0 _ ek5);ai ek5<|ai (uJ ek5 (by kernel_rfl) (by kernel_rfl))<|ai (uK ek5 (bc hk_k0 (hz)))<|bb h (fun h6 h=>AY (congrArg not h6)<|ai (rN dp)<|AY (congrArg not h6)<|aV h fun w7 h=>ai w7<|ai (g0 (congrArg not h6))<|ai (g0 (congrArg not h6))<|ai ff<|ai tt<|cw h fun r8 ek9 h=>have ek9:=cO hk_k0 (hR.f_scope_Walk__scope_few_1 (dp+1) (boxes dp [(8,(av y2))] (aj hp k0 [(I r4.2)])) k0 (Nat.lt_succ_of_lt hk_k0) (dO (bc hk_k0 (hz))) y2.Then (a1+1) r4.2 _ ek9);ai ek9<|ai (uJ ek9 (by kernel_rfl) (by kernel_rfl))<|ai (uK ek9 (bc hk_k0 (hz)))<|uL (congrArg not h6)<|bb h (fun h10 h=>AY (congrArg not h10)<|ai (rN dp)<|AY (congrArg not h10)<|ai w7<|ai (g0 (congrArg not h10))<|ai (g0 (congrArg not h10))<|ai ff<|ai tt<|cw h fun r11 ek12 h=>have ek12:=cO hk_k0 (hR.f_scope_Walk__scope_few_1 (dp+1) (boxes dp [(8,(av y2))] (aj hp k0 [(I r8.2)])) k0 (Nat.lt_succ_of_lt hk_k0) (dO (bc hk_k0 (hz))) y2.Else (a1+1) r8.2 _ ek12);ai ek12<|ai (uJ ek12 (by kernel_rfl) (by kernel_rfl))<|ai (uK ek12 (bc hk_k0 (hz)))<|uL (congrArg not h10)<|bb h (fun h13 h=>ai (congrArg not h13)<|aV h fun w14 h=>ai w14<|L h) (fun h13 h=>ai (congrArg not h13)<|L h)) (fun h10 h=>ai (g0 (congrArg not h10))<|ai (g0 (congrArg not h10))<|ai (g0 (congrArg not h10))<|ai (g0 (congrArg not h10))<|ai (g0 (congrArg not h10))<|ai (g0 (congrArg not h10))<|ai (g0 (congrArg not h10))<|ai (congrArg not h10)<|ai tt<|L h)) (fun h6 h=>ai (g0 (congrArg not h6))<|ai (g0 (congrArg not h6))<|ai (g0 (congrArg not h6))<|ai (g0 (congrArg not h6))<|ai (g0 (congrArg not h6))<|ai (g0 (congrArg not h6))<|ai (g0 (congrArg not h6))<|ai (congrArg not h6)<|ai ht<|ai ht<|ai ht<|ai ht<|ai ht<|ai ht<|ai ht<|ai tt<|ai tt<|L h)) (fun h1 h=>ai (decide_eq_false h1)<|L h)
def dU:Option (Bool×Int):=
 (lp (fun v=>dP R a0 a1 v.1 v.2) (0,c0)).bind fun (x1:(Int⊕(Nat×Bool×Int)))=>match x1 with
 | .inl ya_2=>
  some (false,ya_2)
 | .inr yb_2=>
  some (true,yb_2.2.2)
theorem oH(hR:fK R)(dp:Nat)(hp:HP)(k0:Key)(hk_k0:k0.dp<dp)(hz:aS dp hp)(a0:(List Stmt))(a1:Int)(c0:Int)(r:(Bool×Int))(h:dU R a0 a1 c0=some r):fZ dp hp k0 a0 a1 c0 r:=
 aH Sx (ao (.i (a0.length:Int))<|.or (.ex fun (ya_2:Int)=>ao (.lp .ret ⟨[(6,(.b false))],[],aj hp k0 [(I ya_2)]⟩)<|.nil) (.ex fun (yb_2:(Nat×Bool×Int))=>ao (.lp (.ex 0) ⟨[(1,(I a1)),(2,(.f 61 [(.p k0 0)])),(9,(.l 74 (a0.map aI))),(10,(I (a0.length:Int))),(11,(I (yb_2.1:Int))),(12,(.b yb_2.2.1))],[],aj hp k0 [(I yb_2.2.2)]⟩)<|.nil)) fun L=>ai (ay aI a0)<|dT h (gu (fun v=>oV R hR dp hp k0 hk_k0 hz a0 a1 v.1 v.2) (0,c0)) (fun ya_2 h=>L h) (fun yb_2 h=>L h)
def cz:Nat→ga
 | 0=>⟨fun z0 z1 z2=>none⟩
 | n+1=>⟨dU (cz n)⟩
theorem jS:∀ n,fK (cz n)
 | 0=>⟨fun _ _ _ _ _ _ _ _ r h=>(by cases h)⟩
 | n+1=>⟨fun dp hp k0 hk_k0 hz a0 a1 c0 r h=>oH _ (jS n) dp hp k0 hk_k0 hz a0 a1 c0 r h⟩
def eh:Option (Bool×Int):=ev fun n=>(cz n).f_scope_Walk__scope_few_1 a0 a1 c0
theorem jr(hk_k0:k0.dp<dp)(hz:aS dp hp)(a0:(List Stmt))(a1:Int)(c0:Int)(r:(Bool×Int))(h:eh a0 a1 c0=some r):fZ dp hp k0 a0 a1 c0 r:=by
 obtain ⟨n,hn⟩:=wa h
 exact (jS n).f_scope_Walk__scope_few_1 dp hp k0 hk_k0 hz a0 a1 c0 r hn
end
section
variable (a0:Program)
def nr(v0_11:Nat)(v0_3_0:Int):Option ((Nat×Int)⊕(Unit⊕(Nat×Bool×Int))):=
 if (v0_11:Int)<(a0.Funcs.length:Int) then
  (a0.Funcs[v0_11]?).bind fun (y2:Func)=>
  (eh y2.Body 1 v0_3_0).bind fun (r4:(Bool×Int))=>
  if r4.1=true then
   if IntKind.i64.wrap ((v0_11:Int)+1)=((v0_11+1:Nat):Int) then
    some (.inl (v0_11+1,r4.2))
   else none
  else
   some (.inr (.inl ()))
 else
  some (.inr (.inr (v0_11,decide ((v0_11:Int)<(a0.Funcs.length:Int)),v0_3_0)))
abbrev Bv(v:(Nat×Int)):St:=⟨[(1,(.p ⟨0,1⟩ 0)),(4,(.f 61 [(.p ⟨0,3⟩ 0)])),(9,(.l 85 (a0.Funcs.map bC))),(10,(I (a0.Funcs.length:Int))),(11,(I (v.1:Int)))],[(1,(an a0)),(3,[(I v.2)])],H0⟩
abbrev Bw(x:(Unit⊕(Nat×Bool×Int))):aE×St:=match x with | .inl ()=>(.ret,⟨[(2,(.b false))],[],H0⟩) | .inr (z1,z2,z3)=>((.ex 0),⟨[(1,(.p ⟨0,1⟩ 0)),(4,(.f 61 [(.p ⟨0,3⟩ 0)])),(9,(.l 85 (a0.Funcs.map bC))),(10,(I (a0.Funcs.length:Int))),(11,(I (z1:Int))),(12,(.b z2))],[(1,(an a0)),(3,[(I z3)])],H0⟩)
theorem Aa(v0_11:Nat)(v0_3_0:Int)(o:(Nat×Int)⊕(Unit⊕(Nat×Bool×Int)))(h:nr a0 v0_11 v0_3_0=some o):bG E0 IU (Bv a0) (Bw a0) (v0_11,v0_3_0) o:=
 bO (.or (bt<|ao (.n v0_11)<|.ex fun (y2:Func)=>ao (.v (.a (cN y2)))<|fO<|.ex fun (r4:(Bool×Int))=>ao (.v (.b r4.1))<|ao (.h (boxes 0 [(1,(an a0)),(3,[(I r4.2)]),(6,(cN y2))] H0))<|ao (.bx [(1,(an a0)),(3,[(I r4.2)]),(6,(cN y2))])<|ao (.h (H0))<|.or (bf<|ao (.i ((v0_11+1:Nat):Int))<|.nil) (bt<|.nil)) (bf<|.nil)) fun L=>bQ h (fun h1 h=>ai (decide_eq_true h1)<|ai (rI v0_11)<|cw h fun y2 h3 h=>ai (aZ bC h3)<|ai tt<|ai ff<|ai (rfl:Z0)<|ai tt<|ai (rfl:Z0)<|ai (rfl:Z0)<|ai ff<|ai tt<|cw h fun r4 ek5 h=>have ek5:call G Ω0 ⟨0+1,false⟩ 62 [(.l 74 (y2.Body.map aI)),(I 1),(.f 61 [(.p ⟨0,3⟩ 0)])] (boxes 0 [(1,(an a0)),(3,[(I v0_3_0)]),(6,(cN y2))] H0)=some (.ret (.b r4.1),boxes 0 [(1,(an a0)),(3,[(I r4.2)]),(6,(cN y2))] H0):=nT (fJ (bx1:=[(1,(an a0)),(3,[(I v0_3_0)]),(6,(cN y2))]) (by kernel_rfl) (by kernel_rfl)) (fJ (bx1:=[(1,(an a0)),(3,[(I r4.2)]),(6,(cN y2))]) (by kernel_rfl) (by kernel_rfl)) (jr (0+1) (boxes 0 [(1,(an a0)),(3,[(I v0_3_0)]),(6,(cN y2))] H0) ⟨0,3⟩ (Nat.lt_succ_self 0) (dO (kZ 0)) y2.Body 1 v0_3_0 _ ek5);ai ek5<|ai (uJ ek5 (by kernel_rfl) (by kernel_rfl))<|ai (uK ek5 (kZ 0))<|bb h (fun h6 h=>ai (congrArg not h6)<|aV h fun w7 h=>ai w7<|L h) (fun h6 h=>ai (congrArg not h6)<|L h)) (fun h1 h=>ai (decide_eq_false h1)<|L h)
abbrev DT(a0:Program)(r:Bool):aR×HP:=(.ret (.b r),H0)
def pd:Option Bool:=
 (lp (fun v=>nr a0 v.1 v.2) (0,0)).bind fun (x1:(Unit⊕(Nat×Bool×Int)))=>match x1 with
 | .inl ya_2=>
  some false
 | .inr yb_2=>
  (eh a0.Main 1 yb_2.2.2).bind fun (r4:(Bool×Int))=>
  some r4.1
theorem Ab(r:Bool)(h:pd a0=some r):call G Ω0 E0 31 [(.a (an a0))] H0=some (DT a0 r):=
 aH TH (fO<|ao (.i (a0.Funcs.length:Int))<|.or (.ex fun (ya_2:Unit)=>ao (.lp .ret ⟨[(2,(.b false))],[],H0⟩)<|.nil) (.ex fun (yb_2:(Nat×Bool×Int))=>ao (.lp (.ex 0) ⟨[(1,(.p ⟨0,1⟩ 0)),(4,(.f 61 [(.p ⟨0,3⟩ 0)])),(9,(.l 85 (a0.Funcs.map bC))),(10,(I (a0.Funcs.length:Int))),(11,(I (yb_2.1:Int))),(12,(.b yb_2.2.1))],[(1,(an a0)),(3,[(I yb_2.2.2)])],H0⟩)<|bt<|.ex fun (r4:(Bool×Int))=>ao (.v (.b r4.1))<|ao (.h (boxes 0 [(1,(an a0)),(3,[(I r4.2)])] H0))<|ao (.bx [(1,(an a0)),(3,[(I r4.2)])])<|ao (.h (H0))<|.nil)) fun L=>ai tt<|ai tt<|ai ff<|ai (rfl:Z0)<|ai tt<|ai (rfl:Z0)<|ai (rfl:Z0)<|ai (ay bC a0.Funcs)<|dT h (gu (fun v=>Aa a0 v.1 v.2) (0,0)) (fun ya_2 h=>L h) (fun yb_2 h=>ai (rfl:Z0)<|ai ff<|ai tt<|cw h fun r4 ek5 h=>have ek5:call G Ω0 ⟨0+1,false⟩ 62 [(.l 74 (a0.Main.map aI)),(I 1),(.f 61 [(.p ⟨0,3⟩ 0)])] (boxes 0 [(1,(an a0)),(3,[(I yb_2.2.2)])] H0)=some (.ret (.b r4.1),boxes 0 [(1,(an a0)),(3,[(I r4.2)])] H0):=nT (fJ (bx1:=[(1,(an a0)),(3,[(I yb_2.2.2)])]) (by kernel_rfl) (by kernel_rfl)) (fJ (bx1:=[(1,(an a0)),(3,[(I r4.2)])]) (by kernel_rfl) (by kernel_rfl)) (jr (0+1) (boxes 0 [(1,(an a0)),(3,[(I yb_2.2.2)])] H0) ⟨0,3⟩ (Nat.lt_succ_self 0) (dO (kZ 0)) a0.Main 1 yb_2.2.2 _ ek5);ai ek5<|ai (uJ ek5 (by kernel_rfl) (by kernel_rfl))<|ai (uK ek5 (kZ 0))<|L h)
end
section
variable (a0:(List Int))(a1:Int)
def gb(v0_8:Nat):Option (Nat⊕(Nat⊕(Nat×Bool))):=
 if (v0_8:Int)<(a0.length:Int) then
  (a0[v0_8]?).bind fun (y2:Int)=>
  if (a1==y2)=true then
   some (.inr (.inl v0_8))
  else
   if IntKind.i64.wrap ((v0_8:Int)+1)=((v0_8+1:Nat):Int) then
    some (.inl (v0_8+1))
   else none
 else
  some (.inr (.inr (v0_8,decide ((v0_8:Int)<(a0.length:Int)))))
abbrev tW(v:Nat):St:=⟨[(0,(.l 3 (a0.map (I)))),(1,(I a1)),(7,(I (a0.length:Int))),(8,(I (v:Int)))],[],H0⟩
abbrev tX(x:(Nat⊕(Nat×Bool))):aE×St:=match x with | .inl z1=>(.ret,⟨[(4,(I (z1:Int)))],[],H0⟩) | .inr (z1,z2)=>((.ex 0),⟨[(0,(.l 3 (a0.map (I)))),(1,(I a1)),(7,(I (a0.length:Int))),(8,(I (z1:Int))),(9,(.b z2))],[],H0⟩)
theorem sZ(v0_8:Nat)(o:Nat⊕(Nat⊕(Nat×Bool)))(h:gb a0 a1 v0_8=some o):bG E0 Jk (tW a0 a1) (tX a0 a1) v0_8 o:=
 bO (.or (bt<|ao (.n v0_8)<|xI fun y2=>oN (ao (.i ((v0_8+1:Nat):Int))<|.nil)) (bf<|.nil)) fun L=>bQ h (fun h1 h=>ai (decide_eq_true h1)<|ai (rI v0_8)<|cw h fun y2 h3 h=>ai (aZ (I) h3)<|bb h (fun h4 h=>ai h4<|L h) (fun h4 h=>ai h4<|aV h fun w5 h=>ai w5<|L h)) (fun h1 h=>ai (decide_eq_false h1)<|L h)
abbrev ve(a0:(List Int))(a1:Int)(r:Int):aR×HP:=(.ret (I r),H0)
def lf:Option Int:=
 (lp (fun v=>gb a0 a1 v) 0).bind fun (x1:(Nat⊕(Nat×Bool)))=>match x1 with
 | .inl ya_2=>
  some (ya_2:Int)
 | .inr yb_2=>
  some (-1)
theorem s0(r:Int)(h:lf a0 a1=some r):call G Ω0 E0 78 [(.l 3 (a0.map (I))),(I a1)] H0=some (ve a0 a1 r):=
 aH Up (ao (.i (a0.length:Int))<|.or (.ex fun (ya_2:Nat)=>ao (.lp .ret ⟨[(4,(I (ya_2:Int)))],[],H0⟩)<|.nil) (.ex fun (yb_2:(Nat×Bool))=>ao (.lp (.ex 0) ⟨[(0,(.l 3 (a0.map (I)))),(1,(I a1)),(7,(I (a0.length:Int))),(8,(I (yb_2.1:Int))),(9,(.b yb_2.2))],[],H0⟩)<|.nil)) fun L=>ai (ay (I) a0)<|dT h (gu (sZ a0 a1) 0) (fun ya_2 h=>L h) (fun yb_2 h=>L h)
abbrev s7(a0:(List Int))(a1:Int)(r:Bool):aR×HP:=(.ret (.b r),H0)
def fD:Option Bool:=
 (lf a0 a1).bind fun (r1:Int)=>
 some (decide (0≤r1))
theorem qU(r:Bool)(h:fD a0 a1=some r):call G Ω0 E0 63 [(.l 3 (a0.map (I))),(I a1)] H0=some (s7 a0 a1 r):=
 aH Uf (xI fun r1=>.nil) fun L=>aJ h (s0 a0 a1) fun r1 h=>L h
end
section
variable (a0:Int)(dp:Nat)(hp:HP)(k0:Key)(c0:Checker)
abbrev Bx(a0:Int)(r:(Bool×Bool×Bool)):aR×HP:=(.ret (.tp [(.b r.1),(.b r.2.1),(.b r.2.2)]),H0)
def nu:Option (Bool×Bool×Bool):=
 if (a0 !=4)=true then
  if 2≤a0 then
   if (a0 !=2)=true then
    some ((decide (a0<7)),(decide (a0≤4)),(a0 !=3))
   else
    some ((decide (a0<7)),(decide (a0≤4)),false)
  else
   if (a0 !=2)=true then
    some ((decide (a0<7)),false,(a0 !=3))
   else
    some ((decide (a0<7)),false,false)
 else
  if 2≤a0 then
   if (a0 !=2)=true then
    some (false,(decide (a0≤4)),(a0 !=3))
   else
    some (false,(decide (a0≤4)),false)
  else
   if (a0 !=2)=true then
    some (false,false,(a0 !=3))
   else
    some (false,false,false)
theorem xu(r:(Bool×Bool×Bool))(h:nu a0=some r):call G Ω0 E0 79 [(I a0)] H0=some (Bx a0 r):=
 aH Uq (.or (fO<|.or (fO<|.or (fO<|.nil) (AZ<|.nil)) (AZ<|.or (fO<|.nil) (AZ<|.nil))) (AZ<|.or (fO<|.or (fO<|.nil) (AZ<|.nil)) (AZ<|.or (fO<|.nil) (AZ<|.nil)))) fun L=>bb h (fun h1 h=>pz h1<|bQ h (fun h2 h=>pz (decide_eq_true h2)<|bb h (fun h3 h=>pz h3<|L h) (fun h3 h=>pz h3<|L h)) (fun h2 h=>pz (decide_eq_false h2)<|bb h (fun h3 h=>pz h3<|L h) (fun h3 h=>pz h3<|L h))) (fun h1 h=>pz h1<|bQ h (fun h2 h=>pz (decide_eq_true h2)<|bb h (fun h3 h=>pz h3<|L h) (fun h3 h=>pz h3<|L h)) (fun h2 h=>pz (decide_eq_false h2)<|bb h (fun h3 h=>pz h3<|L h) (fun h3 h=>pz h3<|L h)))
abbrev sK(dp:Nat)(hp:HP)(k0:Key)(c0:Checker)(a0:Int)(r:Int):aR×HP:=(.ret (I r),aj hp k0 (ad c0))
def e6(a0:Int):Option Int:=
 if (a0==2)=true then
  some c0.funcs
 else
  if (a0==3)=true then
   some (c0.p.Ins.length:Int)
  else
   some (c0.p.Outs.length:Int)
theorem qn(hk_k0:k0.dp<dp)(hz:aS dp hp)(c0:Checker)(a0:Int)(r:Int)(h:e6 c0 a0=some r):call G Ω0 ⟨dp,true⟩ 80 [(.p k0 0),(I a0)] (aj hp k0 (ad c0))=some (sK dp hp k0 c0 a0 r):=
 aH Ur (.or (sd<|ao (.l (ad c0))<|.nil) (bf<|.or (sd<|ao (.l (ad c0))<|ao (.i (c0.p.Ins.length:Int))<|.nil) (bf<|bf<|ao (.l (ad c0))<|ao (.i (c0.p.Outs.length:Int))<|.nil))) fun L=>bb h (fun h1 h=>ai h1<|ai (Nat.ne_of_lt hk_k0)<|ai (cY hp k0 (ad c0))<|L h) (fun h1 h=>ai h1<|bb h (fun h2 h=>ai h2<|ai (Nat.ne_of_lt hk_k0)<|ai (cY hp k0 (ad c0))<|ai (ay ar c0.p.Ins)<|L h) (fun h2 h=>ai h2<|ai (Nat.ne_of_lt hk_k0)<|ai (cY hp k0 (ad c0))<|ai (ay ar c0.p.Outs)<|L h))
end
section
variable (a0:aw)(a1:Int)
abbrev Cu(a0:aw)(a1:Int)(r:Int):aR×HP:=(.ret (I r),H0)
abbrev qV(r:Int):Prop:=call G Ω0 E0 67 [(.a (dc a0)),(I a1)] H0=some (Cu a0 a1 r)
end
structure qW where
 f_scope_size:aw→Int→Option Int
structure pT(R:qW):Prop where
 f_scope_size:∀ (a0:aw)(a1:Int)(r:Int),R.f_scope_size a0 a1=some r→qV a0 a1 r
section
variable (R:qW)(a0:aw)(a1:Int)
def l9(v0_5:Int)(v0_11:Nat):Option ((Int×Nat)⊕((Int×Nat×Bool×aw)⊕(Int×Nat×Bool))):=
 if (v0_11:Int)<(a0.Args.length:Int) then
  (a0.Args[v0_11]?).bind fun (y2:aw)=>
  if a1<v0_5 then
   some (.inr (.inl (v0_5,v0_11,decide (a1<v0_5),y2)))
  else
   if IntKind.i64.wrap (a1 - v0_5)=a1 - v0_5 then
    (R.f_scope_size y2 (a1 - v0_5)).bind fun (r6:Int)=>
    if IntKind.i64.wrap (v0_5+r6)=v0_5+r6 then
     if IntKind.i64.wrap ((v0_11:Int)+1)=((v0_11+1:Nat):Int) then
      some (.inl (v0_5+r6,v0_11+1))
     else none
    else none
   else none
 else
  some (.inr (.inr (v0_5,v0_11,decide ((v0_11:Int)<(a0.Args.length:Int)))))
abbrev Ac(v:(Int×Nat)):St:=⟨[(1,(I a1)),(5,(I v.1)),(9,(.l 53 (a0.Args.map aG))),(10,(I (a0.Args.length:Int))),(11,(I (v.2:Int)))],[],H0⟩
abbrev Ad(x:((Int×Nat×Bool×aw)⊕(Int×Nat×Bool))):aE×St:=match x with | .inl (z1,z2,z3,z4)=>((.ex 0),⟨[(1,(I a1)),(5,(I z1)),(7,(.p ⟨0,7⟩ 0)),(9,(.l 53 (a0.Args.map aG))),(10,(I (a0.Args.length:Int))),(11,(I (z2:Int))),(17,(.b z3))],[(7,(dc z4))],H0⟩) | .inr (z1,z2,z3)=>((.ex 0),⟨[(1,(I a1)),(5,(I z1)),(9,(.l 53 (a0.Args.map aG))),(10,(I (a0.Args.length:Int))),(11,(I (z2:Int))),(12,(.b z3))],[],H0⟩)
theorem yL(hR:pT R)(a0:aw)(a1:Int)(v0_5:Int)(v0_11:Nat)(o:(Int×Nat)⊕((Int×Nat×Bool×aw)⊕(Int×Nat×Bool)))(h:l9 R a0 a1 v0_5 v0_11=some o):bG E0 Jf (Ac a0 a1) (Ad a0 a1) (v0_5,v0_11) o:=
 bO (.or (bt<|ao (.n v0_11)<|.ex fun (y2:aw)=>ao (.v (.a (dc y2)))<|iI<|oN (bt<|ao (.i (a1 - v0_5))<|xI fun r6=>ao (.i (v0_5+r6))<|ao (.i ((v0_11+1:Nat):Int))<|.nil)) (bf<|.nil)) fun L=>bQ h (fun h1 h=>ai (decide_eq_true h1)<|ai (rI v0_11)<|cw h fun y2 h3 h=>ai (qR aG h3 (iJ _))<|ai tt<|ai ff<|ai (rfl:Z0)<|ai tt<|ai (rfl:Z0)<|bQ h (fun h4 h=>ai (decide_eq_true h4)<|L h) (fun h4 h=>p9 (decide_eq_false h4)<|aV h fun w5 h=>ai w5<|aJ h (hR.f_scope_size y2 (a1 - v0_5)) fun r6 h=>aV h fun w8 h=>ai w8<|aV h fun w9 h=>ai w9<|L h)) (fun h1 h=>ai (decide_eq_false h1)<|L h)
def nv:Option Int:=
 (lp (fun v=>l9 R a0 a1 v.1 v.2) (1,0)).bind fun (x1:((Int×Nat×Bool×aw)⊕(Int×Nat×Bool)))=>match x1 with
 | .inl ya_2=>
  some ya_2.1
 | .inr yb_2=>
  some yb_2.1
theorem xv(hR:pT R)(a0:aw)(a1:Int)(r:Int)(h:nv R a0 a1=some r):qV a0 a1 r:=
 aH Ui (bt<|ao (.i (a0.Args.length:Int))<|.or (.ex fun (ya_2:(Int×Nat×Bool×aw))=>ao (.lp (.ex 0) ⟨[(1,(I a1)),(5,(I ya_2.1)),(7,(.p ⟨0,7⟩ 0)),(9,(.l 53 (a0.Args.map aG))),(10,(I (a0.Args.length:Int))),(11,(I (ya_2.2.1:Int))),(17,(.b ya_2.2.2.1))],[(7,(dc ya_2.2.2.2))],H0⟩)<|.nil) (.ex fun (yb_2:(Int×Nat×Bool))=>ao (.lp (.ex 0) ⟨[(1,(I a1)),(5,(I yb_2.1)),(9,(.l 53 (a0.Args.map aG))),(10,(I (a0.Args.length:Int))),(11,(I (yb_2.2.1:Int))),(12,(.b yb_2.2.2))],[],H0⟩)<|.nil)) fun L=>ai tt<|ai (rfl:Z0)<|ai (ay aG a0.Args)<|dT h (gu (fun v=>yL R hR a0 a1 v.1 v.2) (1,0)) (fun ya_2 h=>L h) (fun yb_2 h=>L h)
def js:Nat→qW
 | 0=>⟨fun z0 z1=>none⟩
 | n+1=>⟨nv (js n)⟩
theorem uN:∀ n,pT (js n)
 | 0=>⟨fun _ _ r h=>(by cases h)⟩
 | n+1=>⟨fun a0 a1 r h=>xv _ (uN n) a0 a1 r h⟩
def qX:Option Int:=ev fun n=>(js n).f_scope_size a0 a1
theorem yM(r:Int)(h:qX a0 a1=some r):qV a0 a1 r:=by
 obtain ⟨n,hn⟩:=wa h
 exact (uN n).f_scope_size a0 a1 r hn
def sh:List cV:=(gA 23 45)::[]
def dQ(a0:aw)(a1:Int)(w1_1:Nat)(u2_1:Bool):Option Bool:=
 some u2_1
abbrev yN(w1_1:Nat)(u2_1:Bool)(x:Bool):St:=⟨[(1,(I a1)),(2,(.p ⟨0,2⟩ 0)),(23,(.b x))],[(2,(dc a0))],H0⟩
theorem eW(w1_1:Nat)(u2_1:Bool)(w:List AV)(x:Bool)(h:dQ a0 a1 w1_1 u2_1=some x):jF G Ω0 E0 [1,2,23] [2] sh ⟨[(45,(.b u2_1)),(44,(W w 0)),(43,(W w 1)),(42,(W w 2)),(41,(W w 3)),(40,(W w 4)),(39,(W w 5)),(38,(W w 6)),(37,(W w 7)),(36,(W w 8)),(35,(W w 9)),(34,(W w 10)),(33,(W w 11)),(32,(W w 12)),(31,(W w 13)),(30,(W w 14)),(29,(W w 15)),(28,(W w 16)),(27,(.b (a0.Kind==1))),(26,(.b (a0.Kind==1))),(25,(I a0.Kind)),(24,(.p ⟨0,2⟩ 0)),(1,(I a1)),(2,(.p ⟨0,2⟩ 0)),(5,(I (w1_1:Int))),(17,(.b ((a0.Args.length:Int) !=(w1_1:Int))))],[(2,(dc a0))],H0⟩=some (yN a0 a1 w1_1 u2_1 x):=
 jk (.nil) fun L=>L h
def yO:List cV:=(gF 24 0 2)::(gQ 25 24)::(gB 26 .eql 25 (kI 1))::(gM 27 26)::⟨some 28,.fa 1 2,some ⟨27,true⟩,false⟩::⟨some 29,.ld none 28,some ⟨27,true⟩,false⟩::⟨some 30,.bo .lss false 29 (kI (-9999999)),some ⟨27,true⟩,false⟩::⟨some 31,.mv 30,some ⟨27,true⟩,false⟩::⟨some 32,.fa 1 2,some ⟨31,false⟩,false⟩::⟨some 33,.ld none 32,some ⟨31,false⟩,false⟩::⟨some 34,.bo .gtr false 33 (kI 9999999),some ⟨31,false⟩,false⟩::⟨some 35,.pk 31 (.c (.b true)) 34,some ⟨27,true⟩,false⟩::(gp 36 (.pk 27 35 (.c (.b false))))::(gM 37 36)::⟨some 38,.mv 5,some ⟨37,false⟩,false⟩::⟨some 39,.bo .gtr false 38 (kI 0),some ⟨37,false⟩,false⟩::⟨some 40,.mv 39,some ⟨37,false⟩,false⟩::⟨some 41,.fa 1 2,some ⟨40,true⟩,false⟩::⟨some 42,.ld none 41,some ⟨40,true⟩,false⟩::⟨some 43,.bo .neq false 42 (kI 0),some ⟨40,true⟩,false⟩::⟨some 44,.pk 40 43 (.c (.b false)),some ⟨37,false⟩,false⟩::(gp 45 (.pk 37 (.c (.b true)) 44))::sh
def kA(w1_1:Nat):Option Bool:=
 if (a0.Kind==1)=true then
  if a0.N < -9999999 then
   (dQ a0 a1 w1_1 true).bind fun (x7:Bool)=>
   some x7
  else
   if 9999999<a0.N then
    (dQ a0 a1 w1_1 true).bind fun (x8:Bool)=>
    some x8
   else
    if 0<(w1_1:Int) then
     (dQ a0 a1 w1_1 (a0.N !=0)).bind fun (x9:Bool)=>
     some x9
    else
     (dQ a0 a1 w1_1 false).bind fun (x9:Bool)=>
     some x9
 else
  if 0<(w1_1:Int) then
   (dQ a0 a1 w1_1 (a0.N !=0)).bind fun (x7:Bool)=>
   some x7
  else
   (dQ a0 a1 w1_1 false).bind fun (x7:Bool)=>
   some x7
abbrev yP(w1_1:Nat)(x:Bool):St:=⟨[(1,(I a1)),(2,(.p ⟨0,2⟩ 0)),(23,(.b x))],[(2,(dc a0))],H0⟩
theorem xw(w1_1:Nat)(x:Bool)(h:kA a0 a1 w1_1=some x):jF G Ω0 E0 [1,2,23] [2] yO ⟨[(1,(I a1)),(2,(.p ⟨0,2⟩ 0)),(5,(I (w1_1:Int))),(17,(.b ((a0.Args.length:Int) !=(w1_1:Int))))],[(2,(dc a0))],H0⟩=some (yP a0 a1 w1_1 x):=
 jk (bt<|.or (oi<|.or (bf<|bf<|bf<|bt<|bt<|bt<|bf<|bf<|bf<|bf<|bt<|.jb (some 23) 0<|.ex fun (x7:Bool)=>ao (.jn ⟨[(1,(I a1)),(2,(.p ⟨0,2⟩ 0)),(23,(.b x7))],[(2,(dc a0))],H0⟩)<|.nil) (bt<|bt<|bt<|bt<|bt<|bf<|bt<|.or (yz<|.jb (some 23) 0<|.ex fun (x8:Bool)=>ao (.jn ⟨[(1,(I a1)),(2,(.p ⟨0,2⟩ 0)),(23,(.b x8))],[(2,(dc a0))],H0⟩)<|.nil) (fO<|.or (Gn<|.jb (some 23) 0<|.ex fun (x9:Bool)=>ao (.jn ⟨[(1,(I a1)),(2,(.p ⟨0,2⟩ 0)),(23,(.b x9))],[(2,(dc a0))],H0⟩)<|.nil) (Jt<|.jb (some 23) 0<|.ex fun (x9:Bool)=>ao (.jn ⟨[(1,(I a1)),(2,(.p ⟨0,2⟩ 0)),(23,(.b x9))],[(2,(dc a0))],H0⟩)<|.nil)))) (bf<|bf<|bf<|bf<|bf<|bf<|bt<|bt<|bt<|.or (Gn<|.jb (some 23) 0<|.ex fun (x7:Bool)=>ao (.jn ⟨[(1,(I a1)),(2,(.p ⟨0,2⟩ 0)),(23,(.b x7))],[(2,(dc a0))],H0⟩)<|.nil) (Jt<|.jb (some 23) 0<|.ex fun (x7:Bool)=>ao (.jn ⟨[(1,(I a1)),(2,(.p ⟨0,2⟩ 0)),(23,(.b x7))],[(2,(dc a0))],H0⟩)<|.nil))) fun L=>ai (rfl:Z0)<|bb h (fun h5 h=>ai (g1 h5)<|ai (g1 h5)<|ai (rfl:Z0)<|ai (g1 h5)<|ai (g1 h5)<|bQ h (fun h6 h=>yx (decide_eq_true h6)<|ai (g1 h5)<|ai (decide_eq_true h6)<|ai h5<|ai ht<|ai ht<|ai ht<|ai ht<|ai tt<|aJ h (eW a0 a1 w1_1 true [.sk,.sk,.sk,.sk,.sk,.sk,.sk,(.b true),(.b true),(.b true),.sk,.sk,.sk,(.b (decide (a0.N < -9999999))),(.b (decide (a0.N < -9999999))),(I a0.N),(.p ⟨0,2⟩ 1)]) fun x7 h=>L h) (fun h6 h=>Ej (decide_eq_false h6)<|ai (g1 h5)<|ai (decide_eq_false h6)<|ai h5<|bQ h (fun h7 h=>yw (decide_eq_true h7)<|aJ h (eW a0 a1 w1_1 true [.sk,.sk,.sk,.sk,.sk,.sk,.sk,(.b (decide (9999999<a0.N))),(.b (decide (9999999<a0.N))),(.b (decide (9999999<a0.N))),(.b (decide (9999999<a0.N))),(I a0.N),(.p ⟨0,2⟩ 1),(.b (decide (a0.N < -9999999))),(.b (decide (a0.N < -9999999))),(I a0.N),(.p ⟨0,2⟩ 1)]) fun x8 h=>L h) (fun h7 h=>yx (decide_eq_false h7)<|bQ h (fun h8 h=>ai (g1 (decide_eq_true h8))<|ai (g1 (decide_eq_true h8))<|ai (rfl:Z0)<|ai (g1 (decide_eq_true h8))<|ai (g0 (decide_eq_false h7))<|ai (decide_eq_true h8)<|ai (decide_eq_false h7)<|aJ h (eW a0 a1 w1_1 (a0.N !=0) [(.b (a0.N !=0)),(.b (a0.N !=0)),(I a0.N),(.p ⟨0,2⟩ 1),(.b (decide (0<(w1_1:Int)))),(.b (decide (0<(w1_1:Int)))),(I (w1_1:Int)),(.b (decide (9999999<a0.N))),(.b (decide (9999999<a0.N))),(.b (decide (9999999<a0.N))),(.b (decide (9999999<a0.N))),(I a0.N),(.p ⟨0,2⟩ 1),(.b (decide (a0.N < -9999999))),(.b (decide (a0.N < -9999999))),(I a0.N),(.p ⟨0,2⟩ 1)]) fun x9 h=>L h) (fun h8 h=>zL (decide_eq_false h8)<|ai (g0 (decide_eq_false h7))<|ai (decide_eq_false h8)<|ai (decide_eq_false h7)<|aJ h (eW a0 a1 w1_1 false [(.b false),.sk,.sk,.sk,(.b (decide (0<(w1_1:Int)))),(.b (decide (0<(w1_1:Int)))),(I (w1_1:Int)),(.b (decide (9999999<a0.N))),(.b (decide (9999999<a0.N))),(.b (decide (9999999<a0.N))),(.b (decide (9999999<a0.N))),(I a0.N),(.p ⟨0,2⟩ 1),(.b (decide (a0.N < -9999999))),(.b (decide (a0.N < -9999999))),(I a0.N),(.p ⟨0,2⟩ 1)]) fun x9 h=>L h)))) (fun h5 h=>ai (g1 h5)<|ai (g1 h5)<|ai (g1 h5)<|ai (g1 h5)<|ai (g1 h5)<|ai h5<|ai hf<|ai hf<|ai hf<|bQ h (fun h6 h=>ai (g1 (decide_eq_true h6))<|ai (g1 (decide_eq_true h6))<|ai (rfl:Z0)<|ai (g1 (decide_eq_true h6))<|ai hf<|ai (decide_eq_true h6)<|ai ff<|aJ h (eW a0 a1 w1_1 (a0.N !=0) [(.b (a0.N !=0)),(.b (a0.N !=0)),(I a0.N),(.p ⟨0,2⟩ 1),(.b (decide (0<(w1_1:Int)))),(.b (decide (0<(w1_1:Int)))),(I (w1_1:Int)),(.b false),(.b false),.sk,.sk,.sk,.sk,.sk,.sk,.sk,.sk]) fun x7 h=>L h) (fun h6 h=>ai (g1 (decide_eq_false h6))<|ai (g1 (decide_eq_false h6))<|ai (g1 (decide_eq_false h6))<|ai hf<|ai (decide_eq_false h6)<|ai ff<|aJ h (eW a0 a1 w1_1 false [(.b false),.sk,.sk,.sk,(.b (decide (0<(w1_1:Int)))),(.b (decide (0<(w1_1:Int)))),(I (w1_1:Int)),(.b false),(.b false),.sk,.sk,.sk,.sk,.sk,.sk,.sk,.sk]) fun x7 h=>L h))
def iK(w1_1:Nat):Option (Unit⊕(Unit⊕(Unit⊕Unit))):=
 if ((a0.Args.length:Int) !=(w1_1:Int))=true then
  some (.inl ())
 else
  (kA a0 a1 w1_1).bind fun (x5:Bool)=>
  if x5=true then
   some (.inr (.inl ()))
  else
   if (a0.Kind==2)=true then
    if a0.N<0 then
     some (.inr (.inr (.inl ())))
    else
     if a1≤a0.N then
      some (.inr (.inr (.inl ())))
     else
      some (.inr (.inr (.inr ())))
   else
    some (.inr (.inr (.inr ())))
abbrev yQ(a0:aw)(a1:Int)(w1_1:Nat)(x:(Unit⊕(Unit⊕(Unit⊕Unit)))):aE×St:=match x with | .inl ()=>(.ret,⟨[(4,(I 1))],[],H0⟩) | .inr (.inl ())=>(.ret,⟨[(4,(I 3))],[],H0⟩) | .inr (.inr (.inl ()))=>(.ret,⟨[(4,(I 5))],[],H0⟩) | .inr (.inr (.inr ()))=>(.ret,⟨[(4,(I 0))],[],H0⟩)
theorem qY(w1_1:Nat)(x:(Unit⊕(Unit⊕(Unit⊕Unit))))(h:iK a0 a1 w1_1=some x):run G Ω0 E0 Jl ⟨[(1,(I a1)),(2,(.p ⟨0,2⟩ 0)),(5,(I (w1_1:Int)))],[(2,(dc a0))],H0⟩=some (yQ a0 a1 w1_1 x):=
 Fz (bt<|ao (.i (a0.Args.length:Int))<|oN (.jb (some 24) 22<|.ex fun (x5:Bool)=>ao (.jn ⟨[(1,(I a1)),(2,(.p ⟨0,2⟩ 0)),(23,(.b x5))],[(2,(dc a0))],H0⟩)<|oN (bt<|.or (oi<|.or (bf<|bf<|bf<|bf<|bt<|bt<|bt<|bt<|.nil) (bt<|bt<|bt<|bt<|bt<|bt<|bf<|bt<|oN (.nil))) (HI<|.nil)))) fun L=>ai (rfl:Z0)<|ai (ay aG a0.Args)<|bb h (fun h4 h=>ai h4<|L h) (fun h4 h=>ai h4<|aJ h (xw a0 a1 w1_1) fun x5 h=>bb h (fun h7 h=>ai h7<|L h) (fun h7 h=>p9 h7<|bb h (fun h8 h=>ai (g1 h8)<|ai (g1 h8)<|ai (rfl:Z0)<|ai (g1 h8)<|ai (g1 h8)<|bQ h (fun h9 h=>ai (g0 (decide_eq_true h9))<|ai (g0 (decide_eq_true h9))<|ai (g0 (decide_eq_true h9))<|ai (g0 (decide_eq_true h9))<|ai (g1 h8)<|ai (decide_eq_true h9)<|ai h8<|ai tt<|L h) (fun h9 h=>ai (g0 (decide_eq_false h9))<|ai (g0 (decide_eq_false h9))<|ai (rfl:Z0)<|ai (g0 (decide_eq_false h9))<|ai (g0 (decide_eq_false h9))<|ai (g1 h8)<|ai (decide_eq_false h9)<|ai h8<|bQ h (fun h10 h=>ai (decide_eq_true h10)<|L h) (fun h10 h=>ai (decide_eq_false h10)<|L h))) (fun h8 h=>ai (g1 h8)<|ai (g1 h8)<|ai (g1 h8)<|ai (g1 h8)<|ai (g1 h8)<|ai h8<|ai ff<|L h)))
abbrev Cv(a0:aw)(a1:Int)(r:Int):aR×HP:=(.ret (I r),H0)
def oo:Option Int:=
 if a0.Kind<1 then
  some 7
 else
  if 7<a0.Kind then
   some 7
  else
   if 2<a0.Kind then
    (iK a0 a1 2).bind fun (x4:(Unit⊕(Unit⊕(Unit⊕Unit))))=>match x4 with
    | .inl ya_5=>
     some 1
    | .inr (.inl yb_5)=>
     some 3
    | .inr (.inr (.inl yc_5))=>
     some 5
    | .inr (.inr (.inr yd_5))=>
     some 0
   else
    (iK a0 a1 0).bind fun (x4:(Unit⊕(Unit⊕(Unit⊕Unit))))=>match x4 with
    | .inl ya_5=>
     some 1
    | .inr (.inl yb_5)=>
     some 3
    | .inr (.inr (.inl yc_5))=>
     some 5
    | .inr (.inr (.inr yd_5))=>
     some 0
theorem yR(r:Int)(h:oo a0 a1=some r):call G Ω0 E0 82 [(.a (dc a0)),(I a1)] H0=some (Cv a0 a1 r):=
 aH Us (bt<|.or (bf<|bf<|bf<|bt<|bt<|.nil) (HH<|oN (bt<|.or (bt<|.fb<|.or (.ex fun (ya_5:Unit)=>ao (.fr .ret ⟨[(4,(I 1))],[],H0⟩)<|.nil) (.or (.ex fun (yb_5:Unit)=>ao (.fr .ret ⟨[(4,(I 3))],[],H0⟩)<|.nil) (.or (.ex fun (yc_5:Unit)=>ao (.fr .ret ⟨[(4,(I 5))],[],H0⟩)<|.nil) (.ex fun (yd_5:Unit)=>ao (.fr .ret ⟨[(4,(I 0))],[],H0⟩)<|.nil)))) (bf<|.fb<|.or (.ex fun (ya_5:Unit)=>ao (.fr .ret ⟨[(4,(I 1))],[],H0⟩)<|.nil) (.or (.ex fun (yb_5:Unit)=>ao (.fr .ret ⟨[(4,(I 3))],[],H0⟩)<|.nil) (.or (.ex fun (yc_5:Unit)=>ao (.fr .ret ⟨[(4,(I 5))],[],H0⟩)<|.nil) (.ex fun (yd_5:Unit)=>ao (.fr .ret ⟨[(4,(I 0))],[],H0⟩)<|.nil))))))) fun L=>ai tt<|ai (rfl:Z0)<|bQ h (fun h1 h=>ai (g0 (decide_eq_true h1))<|ai (g0 (decide_eq_true h1))<|ai (g0 (decide_eq_true h1))<|ai (decide_eq_true h1)<|ai tt<|L h) (fun h1 h=>ai (g0 (decide_eq_false h1))<|ai (g0 (decide_eq_false h1))<|ai (rfl:Z0)<|ai (g0 (decide_eq_false h1))<|ai (decide_eq_false h1)<|bQ h (fun h2 h=>ai (decide_eq_true h2)<|L h) (fun h2 h=>p9 (decide_eq_false h2)<|bQ h (fun h3 h=>ai (decide_eq_true h3)<|Jr h (qY a0 a1 2) (fun ya_5 h=>L h) (fun yb_5 h=>L h) (fun yc_5 h=>L h) (fun yd_5 h=>L h)) (fun h3 h=>ai (decide_eq_false h3)<|Jr h (qY a0 a1 0) (fun ya_5 h=>L h) (fun yb_5 h=>L h) (fun yc_5 h=>L h) (fun yd_5 h=>L h))))
abbrev By(a0:aw)(a1:Int)(r:Int):aR×HP:=(.ret (I r),H0)
abbrev pU(r:Int):Prop:=call G Ω0 E0 68 [(.a (dc a0)),(I a1)] H0=some (By a0 a1 r)
end
structure pV where
 f_scope_parts:aw→Int→Option Int
structure oW(R:pV):Prop where
 f_scope_parts:∀ (a0:aw)(a1:Int)(r:Int),R.f_scope_parts a0 a1=some r→pU a0 a1 r
section
variable (R:pV)(a0:aw)(a1:Int)
def kB(v0_18:Nat):Option (Nat⊕(Int⊕(Nat×Bool))):=
 if (v0_18:Int)<(a0.Args.length:Int) then
  (a0.Args[v0_18]?).bind fun (y5:aw)=>
  (R.f_scope_parts y5 a1).bind fun (r7:Int)=>
  if (r7 !=0)=true then
   some (.inr (.inl r7))
  else
   if IntKind.i64.wrap ((v0_18:Int)+1)=((v0_18+1:Nat):Int) then
    some (.inl (v0_18+1))
   else none
 else
  some (.inr (.inr (v0_18,decide ((v0_18:Int)<(a0.Args.length:Int)))))
abbrev yS(v:Nat):St:=⟨[(1,(I a1)),(16,(.l 53 (a0.Args.map aG))),(17,(I (a0.Args.length:Int))),(18,(I (v:Int)))],[],H0⟩
abbrev yT(x:(Int⊕(Nat×Bool))):aE×St:=match x with | .inl z1=>(.ret,⟨[(4,(I z1))],[],H0⟩) | .inr (z1,z2)=>((.ex 0),⟨[(1,(I a1)),(16,(.l 53 (a0.Args.map aG))),(17,(I (a0.Args.length:Int))),(18,(I (z1:Int))),(19,(.b z2))],[],H0⟩)
theorem xx(hR:oW R)(a0:aw)(a1:Int)(v0_18:Nat)(o:Nat⊕(Int⊕(Nat×Bool)))(h:kB R a0 a1 v0_18=some o):bG E0 Jg (yS a0 a1) (yT a0 a1) v0_18 o:=
 bO (.or (bt<|ao (.n v0_18)<|.ex fun (y5:aw)=>ao (.v (.a (dc y5)))<|fO<|xI fun r7=>oN (ao (.i ((v0_18+1:Nat):Int))<|.nil)) (bf<|.nil)) fun L=>bQ h (fun h4 h=>ai (decide_eq_true h4)<|ai (rI v0_18)<|cw h fun y5 h6 h=>ai (qR aG h6 (iJ _))<|Gm<|aJ h (hR.f_scope_parts y5 a1) fun r7 h=>bb h (fun h9 h=>ai h9<|L h) (fun h9 h=>ai h9<|aV h fun w10 h=>ai w10<|L h)) (fun h4 h=>ai (decide_eq_false h4)<|L h)
def ma:Option Int:=
 (oo a0 a1).bind fun (r1:Int)=>
 if (r1 !=0)=true then
  some r1
 else
  (lp (fun v=>kB R a0 a1 v) 0).bind fun (x4:(Int⊕(Nat×Bool)))=>match x4 with
  | .inl ya_5=>
   some ya_5
  | .inr yb_5=>
   some 0
theorem wJ(hR:oW R)(a0:aw)(a1:Int)(r:Int)(h:ma R a0 a1=some r):pU a0 a1 r:=
 aH Uj (bt<|xI fun r1=>oN (bt<|ao (.i (a0.Args.length:Int))<|.or (.ex fun (ya_5:Int)=>ao (.lp .ret ⟨[(4,(I ya_5))],[],H0⟩)<|.nil) (.ex fun (yb_5:(Nat×Bool))=>ao (.lp (.ex 0) ⟨[(1,(I a1)),(16,(.l 53 (a0.Args.map aG))),(17,(I (a0.Args.length:Int))),(18,(I (yb_5.1:Int))),(19,(.b yb_5.2))],[],H0⟩)<|.nil))) fun L=>ai tt<|ai (rfl:Z0)<|aJ h (yR a0 a1) fun r1 h=>bb h (fun h3 h=>ai h3<|L h) (fun h3 h=>p9 h3<|ai (ay aG a0.Args)<|dT h (gu (xx R hR a0 a1) 0) (fun ya_5 h=>L h) (fun yb_5 h=>L h))
def ix:Nat→pV
 | 0=>⟨fun z0 z1=>none⟩
 | n+1=>⟨ma (ix n)⟩
theorem s8:∀ n,oW (ix n)
 | 0=>⟨fun _ _ r h=>(by cases h)⟩
 | n+1=>⟨fun a0 a1 r h=>wJ _ (s8 n) a0 a1 r h⟩
def pW:Option Int:=ev fun n=>(ix n).f_scope_parts a0 a1
theorem xy(r:Int)(h:pW a0 a1=some r):pU a0 a1 r:=by
 obtain ⟨n,hn⟩:=wa h
 exact (s8 n).f_scope_parts a0 a1 r hn
abbrev Cw(a0:aw)(a1:Int)(r:Int):aR×HP:=(.ret (I r),H0)
def gR:Option Int:=
 (qX a0 15).bind fun (r1:Int)=>
 if 15<r1 then
  some 2
 else
  (pW a0 a1).bind fun (r4:Int)=>
  some r4
theorem oq(r:Int)(h:gR a0 a1=some r):call G Ω0 E0 37 [(.a (dc a0)),(I a1)] H0=some (Cw a0 a1 r):=
 aH TN (bt<|xI fun r1=>oN (bt<|xI fun r4=>.nil)) fun L=>ai tt<|ai (rfl:Z0)<|aJ h (yM a0 15) fun r1 h=>bQ h (fun h3 h=>ai (decide_eq_true h3)<|L h) (fun h3 h=>p9 (decide_eq_false h3)<|aJ h (xy a0 a1) fun r4 h=>L h)
def mA:List cV:=(gA 10 47)::[]
end
section
variable (c0:Checker)(a0:Stmt)(dp:Nat)(hp:HP)(k0:Key)
def dK(c0:Checker)(a0:Stmt)(r3:(Bool×Bool×Bool))(u2_1:Bool):Option Bool:=
 some u2_1
abbrev rE(c0:Checker)(a0:Stmt)(r3:(Bool×Bool×Bool))(u2_1:Bool)(x:Bool):St:=⟨[(0,(.p k0 0)),(3,(.p ⟨dp,3⟩ 0)),(5,(I a0.Kind)),(6,(.b r3.1)),(7,(.b r3.2.1)),(8,(.b r3.2.2)),(9,(.b (decide (7≤a0.Kind)))),(10,(.b x))],[(3,(av a0))],aj hp k0 (ad c0)⟩
theorem gT(hk_k0:k0.dp<dp)(hz:aS dp hp)(c0:Checker)(a0:Stmt)(r3:(Bool×Bool×Bool))(u2_1:Bool)(w:List AV)(x:Bool)(h:dK c0 a0 r3 u2_1=some x):jF G Ω0 ⟨dp,true⟩ [0,3,5,6,7,8,9,10] [0,3] mA ⟨[(47,(.b u2_1)),(46,(W w 0)),(45,(W w 1)),(44,(W w 2)),(43,(W w 3)),(42,(W w 4)),(41,(W w 5)),(40,(W w 6)),(39,(W w 7)),(38,(W w 8)),(37,(W w 9)),(36,(W w 10)),(35,(.b (a0.Expr.Kind==0))),(34,(.b (a0.Expr.Kind==0))),(33,(I a0.Expr.Kind)),(32,(.p ⟨dp,3⟩ 3)),(31,(.p ⟨dp,3⟩ 3)),(0,(.p k0 0)),(3,(.p ⟨dp,3⟩ 0)),(5,(I a0.Kind)),(6,(.b r3.1)),(7,(.b r3.2.1)),(8,(.b r3.2.2)),(9,(.b (decide (7≤a0.Kind))))],[(3,(av a0))],aj hp k0 (ad c0)⟩=some (rE dp hp k0 c0 a0 r3 u2_1 x):=
 jk (.nil) fun L=>L h
def rF:List cV:=(gF 31 3 3)::(gF 32 0 31)::(gQ 33 32)::(gB 34 .eql 33 (kI 0))::(gM 35 34)::⟨some 36,.fa 3 3,some ⟨35,true⟩,false⟩::⟨some 37,.fa 1 36,some ⟨35,true⟩,false⟩::⟨some 38,.ld none 37,some ⟨35,true⟩,false⟩::⟨some 39,.bo .eql false 38 (kI 0),some ⟨35,true⟩,false⟩::(gp 40 (.pk 35 39 (.c (.b false))))::(gM 41 40)::⟨some 42,.fa 3 3,some ⟨41,true⟩,false⟩::⟨some 43,.fa 2 42,some ⟨41,true⟩,false⟩::⟨some 44,.ld none 43,some ⟨41,true⟩,false⟩::⟨some 45,.ln false 44,some ⟨41,true⟩,false⟩::⟨some 46,.bo .eql false 45 (kI 0),some ⟨41,true⟩,false⟩::(gp 47 (.pk 41 46 (.c (.b false))))::mA
def eN(r3:(Bool×Bool×Bool)):Option Bool:=
 if (a0.Expr.Kind==0)=true then
  if (a0.Expr.N==0)=true then
   (dK c0 a0 r3 ((a0.Expr.Args.length:Int)==0)).bind fun (x7:Bool)=>
   some x7
  else
   (dK c0 a0 r3 false).bind fun (x7:Bool)=>
   some x7
 else
  (dK c0 a0 r3 false).bind fun (x6:Bool)=>
  some x6
abbrev rG(c0:Checker)(a0:Stmt)(r3:(Bool×Bool×Bool))(x:Bool):St:=⟨[(0,(.p k0 0)),(3,(.p ⟨dp,3⟩ 0)),(5,(I a0.Kind)),(6,(.b r3.1)),(7,(.b r3.2.1)),(8,(.b r3.2.2)),(9,(.b (decide (7≤a0.Kind)))),(10,(.b x))],[(3,(av a0))],aj hp k0 (ad c0)⟩
theorem qZ(hk_k0:k0.dp<dp)(hz:aS dp hp)(c0:Checker)(a0:Stmt)(r3:(Bool×Bool×Bool))(x:Bool)(h:eN c0 a0 r3=some x):jF G Ω0 ⟨dp,true⟩ [0,3,5,6,7,8,9,10] [0,3] rF ⟨[(0,(.p k0 0)),(3,(.p ⟨dp,3⟩ 0)),(5,(I a0.Kind)),(6,(.b r3.1)),(7,(.b r3.2.1)),(8,(.b r3.2.2)),(9,(.b (decide (7≤a0.Kind))))],[(3,(av a0))],aj hp k0 (ad c0)⟩=some (rG dp hp k0 c0 a0 r3 x):=
 jk (bt<|.or (HG<|.or (oi<|ao (.i (a0.Expr.Args.length:Int))<|iI<|.jb (some 10) 0<|.ex fun (x7:Bool)=>ao (.jn ⟨[(0,(.p k0 0)),(3,(.p ⟨dp,3⟩ 0)),(5,(I a0.Kind)),(6,(.b r3.1)),(7,(.b r3.2.1)),(8,(.b r3.2.2)),(9,(.b (decide (7≤a0.Kind)))),(10,(.b x7))],[(3,(av a0))],aj hp k0 (ad c0)⟩)<|.nil) (Ju<|.jb (some 10) 0<|.ex fun (x7:Bool)=>ao (.jn ⟨[(0,(.p k0 0)),(3,(.p ⟨dp,3⟩ 0)),(5,(I a0.Kind)),(6,(.b r3.1)),(7,(.b r3.2.1)),(8,(.b r3.2.2)),(9,(.b (decide (7≤a0.Kind)))),(10,(.b x7))],[(3,(av a0))],aj hp k0 (ad c0)⟩)<|.nil)) (Ml<|.jb (some 10) 0<|.ex fun (x6:Bool)=>ao (.jn ⟨[(0,(.p k0 0)),(3,(.p ⟨dp,3⟩ 0)),(5,(I a0.Kind)),(6,(.b r3.1)),(7,(.b r3.2.1)),(8,(.b r3.2.2)),(9,(.b (decide (7≤a0.Kind)))),(10,(.b x6))],[(3,(av a0))],aj hp k0 (ad c0)⟩)<|.nil)) fun L=>ai (rN dp)<|bb h (fun h5 h=>zL h5<|ai (rN dp)<|Ei h5<|bb h (fun h6 h=>zL h6<|ai (rN dp)<|ai (g1 h6)<|ai (ay aG a0.Expr.Args)<|Ei h6<|aJ h (gT dp hp k0 hk_k0 hz c0 a0 r3 ((a0.Expr.Args.length:Int)==0) [(.b ((a0.Expr.Args.length:Int)==0)),(I (a0.Expr.Args.length:Int)),(.l 53 (a0.Expr.Args.map aG)),(.p ⟨dp,3⟩ 5),(.p ⟨dp,3⟩ 3),(.b (a0.Expr.N==0)),(.b (a0.Expr.N==0)),(.b (a0.Expr.N==0)),(I a0.Expr.N),(.p ⟨dp,3⟩ 4),(.p ⟨dp,3⟩ 3)]) fun x7 h=>L h) (fun h6 h=>HF h6<|aJ h (gT dp hp k0 hk_k0 hz c0 a0 r3 false [.sk,.sk,.sk,.sk,.sk,(.b (a0.Expr.N==0)),(.b (a0.Expr.N==0)),(.b (a0.Expr.N==0)),(I a0.Expr.N),(.p ⟨dp,3⟩ 4),(.p ⟨dp,3⟩ 3)]) fun x7 h=>L h)) (fun h5 h=>ai (g1 h5)<|ai (g1 h5)<|ai (g1 h5)<|ai (g1 h5)<|ai h5<|ai gf<|ai gf<|ai gf<|ai gf<|ai gf<|ai ff<|aJ h (gT dp hp k0 hk_k0 hz c0 a0 r3 false [.sk,.sk,.sk,.sk,.sk,(.b false),(.b false),.sk,.sk,.sk,.sk]) fun x6 h=>L h)
def mB:List aY:=gH (gA 48 81)::[]
def cJ(c0:Checker)(a0:Stmt)(r3:(Bool×Bool×Bool))(x5:Bool)(u4_1:Bool)(u5_1:Bool):Option Bool:=
 some u5_1
abbrev rH(c0:Checker)(a0:Stmt)(r3:(Bool×Bool×Bool))(x5:Bool)(u4_1:Bool)(u5_1:Bool)(x:Bool):St:=⟨[(0,(.p k0 0)),(3,(.p ⟨dp,3⟩ 0)),(5,(I a0.Kind)),(6,(.b r3.1)),(7,(.b r3.2.1)),(8,(.b r3.2.2)),(9,(.b (decide (7≤a0.Kind)))),(10,(.b x5)),(48,(.b x))],[(3,(av a0))],aj hp k0 (ad c0)⟩
theorem ey(hk_k0:k0.dp<dp)(hz:aS dp hp)(c0:Checker)(a0:Stmt)(r3:(Bool×Bool×Bool))(x5:Bool)(u4_1:Bool)(u5_1:Bool)(w:List AV)(x:Bool)(h:cJ c0 a0 r3 x5 u4_1 u5_1=some x):tS G Ω0 ⟨dp,true⟩ [0,3,5,6,7,8,9,10,48] [0,3] mB ⟨[(81,(.b u5_1)),(80,(W w 0)),(79,(W w 1)),(78,(W w 2)),(77,(W w 3)),(76,(W w 4)),(75,(W w 5)),(74,(W w 6)),(73,(W w 7)),(72,(W w 8)),(71,(W w 9)),(70,(W w 10)),(69,(W w 11)),(68,(W w 12)),(67,(W w 13)),(66,(.b u4_1)),(65,(.b u4_1)),(64,(W w 14)),(63,(W w 15)),(62,(W w 16)),(61,(W w 17)),(60,(W w 18)),(59,(W w 19)),(58,(W w 20)),(57,(W w 21)),(56,(W w 22)),(55,(W w 23)),(54,(W w 24)),(53,(W w 25)),(52,(W w 26)),(51,(W w 27)),(50,(.b r3.1)),(49,(.b r3.1)),(0,(.p k0 0)),(3,(.p ⟨dp,3⟩ 0)),(5,(I a0.Kind)),(6,(.b r3.1)),(7,(.b r3.2.1)),(8,(.b r3.2.2)),(9,(.b (decide (7≤a0.Kind)))),(10,(.b x5))],[(3,(av a0))],aj hp k0 (ad c0)⟩=some (rH dp hp k0 c0 a0 r3 x5 u4_1 u5_1 x):=
 Cp (.nil) fun L=>L h
def mC:List aY:=gL (gM 66 65) [65] []::⟨⟨some 67,.mv 7,some ⟨66,false⟩,false⟩,true,[7],[],false,[],[],[]⟩::⟨⟨some 68,.mv 67,some ⟨66,false⟩,false⟩,true,[67],[],false,[],[],[]⟩::⟨⟨some 69,.fa 2 3,some ⟨68,true⟩,false⟩,true,[3],[],false,[],[],[]⟩::⟨⟨some 70,.ld none 69,some ⟨68,true⟩,false⟩,true,[69],[3],false,[],[],[]⟩::⟨⟨some 71,.bo .lss false 70 (kI 0),some ⟨68,true⟩,false⟩,true,[70],[],false,[],[],[]⟩::⟨⟨some 72,.mv 71,some ⟨68,true⟩,false⟩,true,[71],[],false,[],[],[]⟩::⟨⟨some 73,.fa 2 3,some ⟨72,false⟩,false⟩,true,[3],[],false,[],[],[]⟩::⟨⟨some 74,.ld none 73,some ⟨72,false⟩,false⟩,true,[73],[3],false,[],[],[]⟩::⟨⟨some 75,.mv 0,some ⟨72,false⟩,false⟩,true,[0],[],false,[],[],[]⟩::⟨⟨some 76,.mv 5,some ⟨72,false⟩,false⟩,true,[5],[],false,[],[],[]⟩::⟨⟨some 77,.c3 80 [75,76],some ⟨72,false⟩,false⟩,true,[75,76],[],true,[],[],[]⟩::⟨⟨some 78,.bo .geq false 74 77,some ⟨72,false⟩,false⟩,false,[],[],false,[],[],[]⟩::⟨⟨some 79,.pk 72 (.c (.b true)) 78,some ⟨68,true⟩,false⟩,false,[],[],false,[],[],[]⟩::⟨⟨some 80,.pk 68 79 (.c (.b false)),some ⟨66,false⟩,false⟩,false,[],[],false,[],[],[]⟩::gH (gp 81 (.pk 66 (.c (.b true)) 80))::mB
def cK(r3:(Bool×Bool×Bool))(x5:Bool)(u4_1:Bool):Option Bool:=
 if u4_1=true then
  (cJ c0 a0 r3 x5 u4_1 true).bind fun (x10:Bool)=>
  some x10
 else
  if r3.2.1=true then
   if a0.Other<0 then
    (cJ c0 a0 r3 x5 u4_1 true).bind fun (x12:Bool)=>
    some x12
   else
    (e6 c0 a0.Kind).bind fun (r12:Int)=>
    (cJ c0 a0 r3 x5 u4_1 (decide (r12≤a0.Other))).bind fun (x14:Bool)=>
    some x14
  else
   (cJ c0 a0 r3 x5 u4_1 false).bind fun (x11:Bool)=>
   some x11
abbrev rJ(c0:Checker)(a0:Stmt)(r3:(Bool×Bool×Bool))(x5:Bool)(u4_1:Bool)(x:Bool):St:=⟨[(0,(.p k0 0)),(3,(.p ⟨dp,3⟩ 0)),(5,(I a0.Kind)),(6,(.b r3.1)),(7,(.b r3.2.1)),(8,(.b r3.2.2)),(9,(.b (decide (7≤a0.Kind)))),(10,(.b x5)),(48,(.b x))],[(3,(av a0))],aj hp k0 (ad c0)⟩
theorem gU(hk_k0:k0.dp<dp)(hz:aS dp hp)(c0:Checker)(a0:Stmt)(r3:(Bool×Bool×Bool))(x5:Bool)(u4_1:Bool)(w:List AV)(x:Bool)(h:cK c0 a0 r3 x5 u4_1=some x):tS G Ω0 ⟨dp,true⟩ [0,3,5,6,7,8,9,10,48] [0,3] mC ⟨[(65,(.b u4_1)),(64,(W w 0)),(63,(W w 1)),(62,(W w 2)),(61,(W w 3)),(60,(W w 4)),(59,(W w 5)),(58,(W w 6)),(57,(W w 7)),(56,(W w 8)),(55,(W w 9)),(54,(W w 10)),(53,(W w 11)),(52,(W w 12)),(51,(W w 13)),(50,(.b r3.1)),(49,(.b r3.1)),(0,(.p k0 0)),(3,(.p ⟨dp,3⟩ 0)),(5,(I a0.Kind)),(6,(.b r3.1)),(7,(.b r3.2.1)),(8,(.b r3.2.2)),(9,(.b (decide (7≤a0.Kind)))),(10,(.b x5))],[(3,(av a0))],aj hp k0 (ad c0)⟩=some (rJ dp hp k0 c0 a0 r3 x5 u4_1 x):=
 Cp (.or (bf<|bf<|bf<|bt<|.jb (some 48) 0<|.ex fun (x10:Bool)=>ao (.jn ⟨[(0,(.p k0 0)),(3,(.p ⟨dp,3⟩ 0)),(5,(I a0.Kind)),(6,(.b r3.1)),(7,(.b r3.2.1)),(8,(.b r3.2.2)),(9,(.b (decide (7≤a0.Kind)))),(10,(.b x5)),(48,(.b x10))],[(3,(av a0))],aj hp k0 (ad c0)⟩)<|.nil) (iI<|.or (oi<|.or (bf<|bf<|bf<|bf<|bf<|bf<|bt<|bt<|bt<|bt<|bf<|.jb (some 48) 0<|.ex fun (x12:Bool)=>ao (.jn ⟨[(0,(.p k0 0)),(3,(.p ⟨dp,3⟩ 0)),(5,(I a0.Kind)),(6,(.b r3.1)),(7,(.b r3.2.1)),(8,(.b r3.2.2)),(9,(.b (decide (7≤a0.Kind)))),(10,(.b x5)),(48,(.b x12))],[(3,(av a0))],aj hp k0 (ad c0)⟩)<|.nil) (HG<|xI fun r12=>ao (.h (boxes dp [] (aj hp k0 (ad c0))))<|bt<|bt<|bf<|bt<|bt<|bf<|.jb (some 48) 0<|.ex fun (x14:Bool)=>ao (.jn ⟨[(0,(.p k0 0)),(3,(.p ⟨dp,3⟩ 0)),(5,(I a0.Kind)),(6,(.b r3.1)),(7,(.b r3.2.1)),(8,(.b r3.2.2)),(9,(.b (decide (7≤a0.Kind)))),(10,(.b x5)),(48,(.b x14))],[(3,(av a0))],aj hp k0 (ad c0)⟩)<|.nil)) (bf<|bf<|bf<|bf<|bf<|bt<|bf<|bf<|.jb (some 48) 0<|.ex fun (x11:Bool)=>ao (.jn ⟨[(0,(.p k0 0)),(3,(.p ⟨dp,3⟩ 0)),(5,(I a0.Kind)),(6,(.b r3.1)),(7,(.b r3.2.1)),(8,(.b r3.2.2)),(9,(.b (decide (7≤a0.Kind)))),(10,(.b x5)),(48,(.b x11))],[(3,(av a0))],aj hp k0 (ad c0)⟩)<|.nil))) fun L=>ai tt<|bb h (fun h9 h=>ai (g0 h9)<|ai (g0 h9)<|ai (g0 h9)<|ai h9<|aJ h (ey dp hp k0 hk_k0 hz c0 a0 r3 x5 u4_1 true [.sk,.sk,.sk,.sk,.sk,.sk,.sk,.sk,.sk,.sk,.sk,.sk,.sk,.sk,(W w 0),(W w 1),(W w 2),(W w 3),(W w 4),(W w 5),(W w 6),(W w 7),(W w 8),(W w 9),(W w 10),(W w 11),(W w 12),(W w 13)]) fun x10 h=>L h) (fun h9 h=>ai (g0 h9)<|ai tt<|ai (g0 h9)<|ai tt<|bb h (fun h10 h=>ai (g1 h10)<|ai tt<|ai (g1 h10)<|ai (rN dp)<|ai tt<|ai (g1 h10)<|ai tt<|ai (g1 h10)<|ai tt<|bQ h (fun h11 h=>ai (g0 (decide_eq_true h11))<|ai (g0 (decide_eq_true h11))<|ai (g0 (decide_eq_true h11))<|ai (g0 (decide_eq_true h11))<|ai (g0 (decide_eq_true h11))<|ai (g0 (decide_eq_true h11))<|ai (g1 h10)<|ai (decide_eq_true h11)<|ai (g0 h9)<|ai h10<|ai h9<|aJ h (ey dp hp k0 hk_k0 hz c0 a0 r3 x5 u4_1 true [(.b true),(.b true),.sk,.sk,.sk,.sk,.sk,.sk,(.b (decide (a0.Other<0))),(.b (decide (a0.Other<0))),(I a0.Other),(.p ⟨dp,3⟩ 2),(.b r3.2.1),(.b r3.2.1),(W w 0),(W w 1),(W w 2),(W w 3),(W w 4),(W w 5),(W w 6),(W w 7),(W w 8),(W w 9),(W w 10),(W w 11),(W w 12),(W w 13)]) fun x12 h=>L h) (fun h11 h=>ai (g0 (decide_eq_false h11))<|ai tt<|ai (g0 (decide_eq_false h11))<|ai (rN dp)<|ai tt<|ai (g0 (decide_eq_false h11))<|ai tt<|ai (g0 (decide_eq_false h11))<|ai tt<|ai (g0 (decide_eq_false h11))<|ai tt<|cw h fun r12 ek13 h=>have ek13:=cO hk_k0 (qn (dp+1) (boxes dp [] (aj hp k0 (ad c0))) k0 (Nat.lt_succ_of_lt hk_k0) (dO (bc hk_k0 (hz))) c0 a0.Kind _ ek13);ai ek13<|ai tt<|ai (g0 (decide_eq_false h11))<|ai (g1 h10)<|ai (decide_eq_false h11)<|ai (g0 h9)<|ai h10<|ai h9<|aJ h (ey dp hp k0 hk_k0 hz c0 a0 r3 x5 u4_1 (decide (r12≤a0.Other)) [(.b (decide (r12≤a0.Other))),(.b (decide (r12≤a0.Other))),(.b (decide (r12≤a0.Other))),(I r12),(I a0.Kind),(.p k0 0),(I a0.Other),(.p ⟨dp,3⟩ 2),(.b (decide (a0.Other<0))),(.b (decide (a0.Other<0))),(I a0.Other),(.p ⟨dp,3⟩ 2),(.b r3.2.1),(.b r3.2.1),(W w 0),(W w 1),(W w 2),(W w 3),(W w 4),(W w 5),(W w 6),(W w 7),(W w 8),(W w 9),(W w 10),(W w 11),(W w 12),(W w 13)]) fun x14 h=>L h)) (fun h10 h=>ai (g1 h10)<|ai (g1 h10)<|ai (g1 h10)<|ai (g1 h10)<|ai (g1 h10)<|ai (g0 h9)<|ai h10<|ai h9<|aJ h (ey dp hp k0 hk_k0 hz c0 a0 r3 x5 u4_1 false [(.b false),.sk,.sk,.sk,.sk,.sk,.sk,.sk,.sk,.sk,.sk,.sk,(.b r3.2.1),(.b r3.2.1),(W w 0),(W w 1),(W w 2),(W w 3),(W w 4),(W w 5),(W w 6),(W w 7),(W w 8),(W w 9),(W w 10),(W w 11),(W w 12),(W w 13)]) fun x11 h=>L h))
def rK:List aY:=gL (gM 49 6) [6] []::gL (gM 50 49) [49] []::⟨⟨some 51,.fa 1 3,some ⟨50,true⟩,false⟩,true,[3],[],false,[],[],[]⟩::⟨⟨some 52,.ld none 51,some ⟨50,true⟩,false⟩,true,[51],[3],false,[],[],[]⟩::⟨⟨some 53,.bo .lss false 52 (kI 0),some ⟨50,true⟩,false⟩,true,[52],[],false,[],[],[]⟩::⟨⟨some 54,.mv 53,some ⟨50,true⟩,false⟩,true,[53],[],false,[],[],[]⟩::⟨⟨some 55,.fa 1 3,some ⟨54,false⟩,false⟩,true,[3],[],false,[],[],[]⟩::⟨⟨some 56,.ld none 55,some ⟨54,false⟩,false⟩,true,[55],[3],false,[],[],[]⟩::⟨⟨some 57,.mv 0,some ⟨54,false⟩,false⟩,true,[0],[],false,[],[],[]⟩::⟨⟨some 58,.nc 57,some ⟨54,false⟩,false⟩,true,[57],[],false,[],[],[]⟩::⟨⟨some 59,.fa 0 58,some ⟨54,false⟩,false⟩,true,[58],[],false,[],[],[]⟩::⟨⟨some 60,.fa 5 59,some ⟨54,false⟩,false⟩,true,[59],[],false,[],[],[]⟩::⟨⟨some 61,.ld none 60,some ⟨54,false⟩,false⟩,true,[60],[],true,[],[],[]⟩::⟨⟨some 62,.ln false 61,some ⟨54,false⟩,false⟩,true,[61],[],true,[],[],[]⟩::⟨⟨some 63,.bo .geq false 56 62,some ⟨54,false⟩,false⟩,true,[56,62],[],false,[],[],[]⟩::⟨⟨some 64,.pk 54 (.c (.b true)) 63,some ⟨50,true⟩,false⟩,true,[54,63],[],false,[],[],[]⟩::gL (gp 65 (.pk 50 64 (.c (.b false)))) [50,64] []::mC
def eO(r3:(Bool×Bool×Bool))(x5:Bool):Option Bool:=
 if r3.1=true then
  if a0.Var<0 then
   (cK c0 a0 r3 x5 true).bind fun (x9:Bool)=>
   some x9
  else
   (cK c0 a0 r3 x5 (decide ((c0.p.Vars.length:Int)≤a0.Var))).bind fun (x9:Bool)=>
   some x9
 else
  (cK c0 a0 r3 x5 false).bind fun (x8:Bool)=>
  some x8
abbrev rL(c0:Checker)(a0:Stmt)(r3:(Bool×Bool×Bool))(x5:Bool)(x:Bool):St:=⟨[(0,(.p k0 0)),(3,(.p ⟨dp,3⟩ 0)),(5,(I a0.Kind)),(6,(.b r3.1)),(7,(.b r3.2.1)),(8,(.b r3.2.2)),(9,(.b (decide (7≤a0.Kind)))),(10,(.b x5)),(48,(.b x))],[(3,(av a0))],aj hp k0 (ad c0)⟩
theorem q0(hk_k0:k0.dp<dp)(hz:aS dp hp)(c0:Checker)(a0:Stmt)(r3:(Bool×Bool×Bool))(x5:Bool)(x:Bool)(h:eO c0 a0 r3 x5=some x):tS G Ω0 ⟨dp,true⟩ [0,3,5,6,7,8,9,10,48] [0,3] rK ⟨[(0,(.p k0 0)),(3,(.p ⟨dp,3⟩ 0)),(5,(I a0.Kind)),(6,(.b r3.1)),(7,(.b r3.2.1)),(8,(.b r3.2.2)),(9,(.b (decide (7≤a0.Kind)))),(10,(.b x5))],[(3,(av a0))],aj hp k0 (ad c0)⟩=some (rL dp hp k0 c0 a0 r3 x5 x):=
 Cp (.or (oi<|.or (bf<|bf<|bf<|bf<|bf<|bf<|bf<|bf<|bf<|bt<|bt<|bt<|.jb (some 66) 16<|.ex fun (x9:Bool)=>ao (.jn ⟨[(0,(.p k0 0)),(3,(.p ⟨dp,3⟩ 0)),(5,(I a0.Kind)),(6,(.b r3.1)),(7,(.b r3.2.1)),(8,(.b r3.2.2)),(9,(.b (decide (7≤a0.Kind)))),(10,(.b x5)),(48,(.b x9))],[(3,(av a0))],aj hp k0 (ad c0)⟩)<|.nil) (bt<|bt<|bt<|bt<|bt<|bt<|bt<|bt<|bf<|ao (.l (ad c0))<|bt<|ao (.i (c0.p.Vars.length:Int))<|bt<|bt<|bf<|bt<|.jb (some 66) 16<|.ex fun (x9:Bool)=>ao (.jn ⟨[(0,(.p k0 0)),(3,(.p ⟨dp,3⟩ 0)),(5,(I a0.Kind)),(6,(.b r3.1)),(7,(.b r3.2.1)),(8,(.b r3.2.2)),(9,(.b (decide (7≤a0.Kind)))),(10,(.b x5)),(48,(.b x9))],[(3,(av a0))],aj hp k0 (ad c0)⟩)<|.nil)) (Ju<|.jb (some 66) 16<|.ex fun (x8:Bool)=>ao (.jn ⟨[(0,(.p k0 0)),(3,(.p ⟨dp,3⟩ 0)),(5,(I a0.Kind)),(6,(.b r3.1)),(7,(.b r3.2.1)),(8,(.b r3.2.2)),(9,(.b (decide (7≤a0.Kind)))),(10,(.b x5)),(48,(.b x8))],[(3,(av a0))],aj hp k0 (ad c0)⟩)<|.nil)) fun L=>ai tt<|ai tt<|bb h (fun h7 h=>ai (g1 h7)<|ai tt<|ai (g1 h7)<|ai (rN dp)<|ai tt<|ai (g1 h7)<|ai tt<|ai (g1 h7)<|ai tt<|bQ h (fun h8 h=>ai (g0 (decide_eq_true h8))<|ai (g0 (decide_eq_true h8))<|ai (g0 (decide_eq_true h8))<|ai (g0 (decide_eq_true h8))<|ai (g0 (decide_eq_true h8))<|ai (g0 (decide_eq_true h8))<|ai (g0 (decide_eq_true h8))<|ai (g0 (decide_eq_true h8))<|ai (g0 (decide_eq_true h8))<|ai (g1 h7)<|ai (decide_eq_true h8)<|ai tt<|ai h7<|ai tt<|aJ h (gU dp hp k0 hk_k0 hz c0 a0 r3 x5 true [(.b true),.sk,.sk,.sk,.sk,.sk,.sk,.sk,.sk,.sk,(.b (decide (a0.Var<0))),(.b (decide (a0.Var<0))),(I a0.Var),(.p ⟨dp,3⟩ 1)]) fun x9 h=>L h) (fun h8 h=>ai (g0 (decide_eq_false h8))<|ai tt<|ai (g0 (decide_eq_false h8))<|ai (rN dp)<|ai tt<|ai (g0 (decide_eq_false h8))<|ai tt<|ai (g0 (decide_eq_false h8))<|ai tt<|ai (g0 (decide_eq_false h8))<|ai tt<|ai (g0 (decide_eq_false h8))<|ai tt<|ai (g0 (decide_eq_false h8))<|ai (Nat.ne_of_lt hk_k0)<|ai (cY hp k0 (ad c0))<|ai tt<|ai (g0 (decide_eq_false h8))<|ai (ay bB c0.p.Vars)<|ai tt<|ai (g0 (decide_eq_false h8))<|ai tt<|ai (g1 h7)<|ai (decide_eq_false h8)<|ai tt<|ai h7<|ai tt<|aJ h (gU dp hp k0 hk_k0 hz c0 a0 r3 x5 (decide ((c0.p.Vars.length:Int)≤a0.Var)) [(.b (decide ((c0.p.Vars.length:Int)≤a0.Var))),(.b (decide ((c0.p.Vars.length:Int)≤a0.Var))),(I (c0.p.Vars.length:Int)),(.l 67 (c0.p.Vars.map bB)),(.p k0 5),(.p k0 0),(.p k0 0),(.p k0 0),(I a0.Var),(.p ⟨dp,3⟩ 1),(.b (decide (a0.Var<0))),(.b (decide (a0.Var<0))),(I a0.Var),(.p ⟨dp,3⟩ 1)]) fun x9 h=>L h)) (fun h7 h=>ai (g1 h7)<|ai (g1 h7)<|ai (g1 h7)<|ai (g1 h7)<|ai (g1 h7)<|ai h7<|ai tt<|aJ h (gU dp hp k0 hk_k0 hz c0 a0 r3 x5 false [.sk,.sk,.sk,.sk,.sk,.sk,.sk,.sk,.sk,.sk,.sk,.sk,.sk,.sk]) fun x8 h=>L h)
def lg:List cV:=(gA 82 136)::[]
def du(c0:Checker)(a0:Stmt)(r3:(Bool×Bool×Bool))(x5:Bool)(x7:Bool)(u7_1:Bool)(u8_1:Bool)(u9_1:Bool)(u10_1:Bool)(u11_1:Bool):Option Bool:=
 some u11_1
abbrev q6(c0:Checker)(a0:Stmt)(r3:(Bool×Bool×Bool))(x5:Bool)(x7:Bool)(u7_1:Bool)(u8_1:Bool)(u9_1:Bool)(u10_1:Bool)(u11_1:Bool)(x:Bool):St:=⟨[(0,(.p k0 0)),(3,(.p ⟨dp,3⟩ 0)),(5,(I a0.Kind)),(8,(.b r3.2.2)),(82,(.b x))],[(3,(av a0))],aj hp k0 (ad c0)⟩
theorem gd(hk_k0:k0.dp<dp)(hz:aS dp hp)(c0:Checker)(a0:Stmt)(r3:(Bool×Bool×Bool))(x5:Bool)(x7:Bool)(u7_1:Bool)(u8_1:Bool)(u9_1:Bool)(u10_1:Bool)(u11_1:Bool)(w:List AV)(x:Bool)(h:du c0 a0 r3 x5 x7 u7_1 u8_1 u9_1 u10_1 u11_1=some x):jF G Ω0 ⟨dp,true⟩ [0,3,5,8,82] [0,3] lg ⟨[(136,(.b u11_1)),(135,(W w 0)),(134,(W w 1)),(133,(W w 2)),(132,(W w 3)),(131,(W w 4)),(130,(W w 5)),(129,(W w 6)),(128,(W w 7)),(127,(.b u10_1)),(126,(.b u10_1)),(125,(W w 8)),(124,(W w 9)),(123,(W w 10)),(122,(W w 11)),(121,(W w 12)),(120,(W w 13)),(119,(W w 14)),(118,(W w 15)),(117,(.b u9_1)),(116,(.b u9_1)),(115,(W w 16)),(114,(W w 17)),(113,(W w 18)),(112,(W w 19)),(111,(W w 20)),(110,(W w 21)),(109,(W w 22)),(108,(W w 23)),(107,(.b u8_1)),(106,(.b u8_1)),(105,(W w 24)),(104,(W w 25)),(103,(W w 26)),(102,(W w 27)),(101,(W w 28)),(100,(W w 29)),(99,(.b u7_1)),(98,(.b u7_1)),(97,(W w 30)),(96,(W w 31)),(95,(W w 32)),(94,(W w 33)),(93,(W w 34)),(92,(W w 35)),(91,(W w 36)),(90,(W w 37)),(89,(W w 38)),(88,(W w 39)),(87,(W w 40)),(86,(W w 41)),(85,(.b (!r3.1))),(84,(.b (!r3.1))),(83,(.b r3.1)),(0,(.p k0 0)),(3,(.p ⟨dp,3⟩ 0)),(5,(I a0.Kind)),(6,(.b r3.1)),(7,(.b r3.2.1)),(8,(.b r3.2.2)),(9,(.b (decide (7≤a0.Kind)))),(10,(.b x5)),(48,(.b x7))],[(3,(av a0))],aj hp k0 (ad c0)⟩=some (q6 dp hp k0 c0 a0 r3 x5 x7 u7_1 u8_1 u9_1 u10_1 u11_1 x):=
 jk (.nil) fun L=>L h
def lh:List cV:=(gM 127 126)::⟨some 128,.mv 5,some ⟨127,false⟩,false⟩::⟨some 129,.bo .neq false 128 (kI 7),some ⟨127,false⟩,false⟩::⟨some 130,.mv 129,some ⟨127,false⟩,false⟩::⟨some 131,.fa 8 3,some ⟨130,true⟩,false⟩::⟨some 132,.ld none 131,some ⟨130,true⟩,false⟩::⟨some 133,.ln false 132,some ⟨130,true⟩,false⟩::⟨some 134,.bo .gtr false 133 (kI 0),some ⟨130,true⟩,false⟩::⟨some 135,.pk 130 134 (.c (.b false)),some ⟨127,false⟩,false⟩::(gp 136 (.pk 127 (.c (.b true)) 135))::lg
def cD(r3:(Bool×Bool×Bool))(x5:Bool)(x7:Bool)(u7_1:Bool)(u8_1:Bool)(u9_1:Bool)(u10_1:Bool):Option Bool:=
 if u10_1=true then
  (du c0 a0 r3 x5 x7 u7_1 u8_1 u9_1 u10_1 true).bind fun (x20:Bool)=>
  some x20
 else
  if (a0.Kind !=7)=true then
   (du c0 a0 r3 x5 x7 u7_1 u8_1 u9_1 u10_1 (decide (0<(a0.Else.length:Int)))).bind fun (x21:Bool)=>
   some x21
  else
   (du c0 a0 r3 x5 x7 u7_1 u8_1 u9_1 u10_1 false).bind fun (x21:Bool)=>
   some x21
abbrev q7(c0:Checker)(a0:Stmt)(r3:(Bool×Bool×Bool))(x5:Bool)(x7:Bool)(u7_1:Bool)(u8_1:Bool)(u9_1:Bool)(u10_1:Bool)(x:Bool):St:=⟨[(0,(.p k0 0)),(3,(.p ⟨dp,3⟩ 0)),(5,(I a0.Kind)),(8,(.b r3.2.2)),(82,(.b x))],[(3,(av a0))],aj hp k0 (ad c0)⟩
theorem gh(hk_k0:k0.dp<dp)(hz:aS dp hp)(c0:Checker)(a0:Stmt)(r3:(Bool×Bool×Bool))(x5:Bool)(x7:Bool)(u7_1:Bool)(u8_1:Bool)(u9_1:Bool)(u10_1:Bool)(w:List AV)(x:Bool)(h:cD c0 a0 r3 x5 x7 u7_1 u8_1 u9_1 u10_1=some x):jF G Ω0 ⟨dp,true⟩ [0,3,5,8,82] [0,3] lh ⟨[(126,(.b u10_1)),(125,(W w 0)),(124,(W w 1)),(123,(W w 2)),(122,(W w 3)),(121,(W w 4)),(120,(W w 5)),(119,(W w 6)),(118,(W w 7)),(117,(.b u9_1)),(116,(.b u9_1)),(115,(W w 8)),(114,(W w 9)),(113,(W w 10)),(112,(W w 11)),(111,(W w 12)),(110,(W w 13)),(109,(W w 14)),(108,(W w 15)),(107,(.b u8_1)),(106,(.b u8_1)),(105,(W w 16)),(104,(W w 17)),(103,(W w 18)),(102,(W w 19)),(101,(W w 20)),(100,(W w 21)),(99,(.b u7_1)),(98,(.b u7_1)),(97,(W w 22)),(96,(W w 23)),(95,(W w 24)),(94,(W w 25)),(93,(W w 26)),(92,(W w 27)),(91,(W w 28)),(90,(W w 29)),(89,(W w 30)),(88,(W w 31)),(87,(W w 32)),(86,(W w 33)),(85,(.b (!r3.1))),(84,(.b (!r3.1))),(83,(.b r3.1)),(0,(.p k0 0)),(3,(.p ⟨dp,3⟩ 0)),(5,(I a0.Kind)),(6,(.b r3.1)),(7,(.b r3.2.1)),(8,(.b r3.2.2)),(9,(.b (decide (7≤a0.Kind)))),(10,(.b x5)),(48,(.b x7))],[(3,(av a0))],aj hp k0 (ad c0)⟩=some (q7 dp hp k0 c0 a0 r3 x5 x7 u7_1 u8_1 u9_1 u10_1 x):=
 jk (.or (yz<|.jb (some 82) 0<|.ex fun (x20:Bool)=>ao (.jn ⟨[(0,(.p k0 0)),(3,(.p ⟨dp,3⟩ 0)),(5,(I a0.Kind)),(8,(.b r3.2.2)),(82,(.b x20))],[(3,(av a0))],aj hp k0 (ad c0)⟩)<|.nil) (fO<|.or (uM<|ao (.i (a0.Else.length:Int))<|FB<|.jb (some 82) 0<|.ex fun (x21:Bool)=>ao (.jn ⟨[(0,(.p k0 0)),(3,(.p ⟨dp,3⟩ 0)),(5,(I a0.Kind)),(8,(.b r3.2.2)),(82,(.b x21))],[(3,(av a0))],aj hp k0 (ad c0)⟩)<|.nil) (HJ<|.jb (some 82) 0<|.ex fun (x21:Bool)=>ao (.jn ⟨[(0,(.p k0 0)),(3,(.p ⟨dp,3⟩ 0)),(5,(I a0.Kind)),(8,(.b r3.2.2)),(82,(.b x21))],[(3,(av a0))],aj hp k0 (ad c0)⟩)<|.nil))) fun L=>bb h (fun h19 h=>yw h19<|aJ h (gd dp hp k0 hk_k0 hz c0 a0 r3 x5 x7 u7_1 u8_1 u9_1 u10_1 true [.sk,.sk,.sk,.sk,.sk,.sk,.sk,.sk,(W w 0),(W w 1),(W w 2),(W w 3),(W w 4),(W w 5),(W w 6),(W w 7),(W w 8),(W w 9),(W w 10),(W w 11),(W w 12),(W w 13),(W w 14),(W w 15),(W w 16),(W w 17),(W w 18),(W w 19),(W w 20),(W w 21),(W w 22),(W w 23),(W w 24),(W w 25),(W w 26),(W w 27),(W w 28),(W w 29),(W w 30),(W w 31),(W w 32),(W w 33)]) fun x20 h=>L h) (fun h19 h=>yx h19<|bb h (fun h20 h=>vd h20<|ai (rN dp)<|ai (g1 h20)<|ai (ay aI a0.Else)<|ai (g1 h20)<|ai (g0 h19)<|ai h20<|ai h19<|aJ h (gd dp hp k0 hk_k0 hz c0 a0 r3 x5 x7 u7_1 u8_1 u9_1 u10_1 (decide (0<(a0.Else.length:Int))) [(.b (decide (0<(a0.Else.length:Int)))),(.b (decide (0<(a0.Else.length:Int)))),(I (a0.Else.length:Int)),(.l 74 (a0.Else.map aI)),(.p ⟨dp,3⟩ 8),(.b (a0.Kind !=7)),(.b (a0.Kind !=7)),(I a0.Kind),(W w 0),(W w 1),(W w 2),(W w 3),(W w 4),(W w 5),(W w 6),(W w 7),(W w 8),(W w 9),(W w 10),(W w 11),(W w 12),(W w 13),(W w 14),(W w 15),(W w 16),(W w 17),(W w 18),(W w 19),(W w 20),(W w 21),(W w 22),(W w 23),(W w 24),(W w 25),(W w 26),(W w 27),(W w 28),(W w 29),(W w 30),(W w 31),(W w 32),(W w 33)]) fun x21 h=>L h) (fun h20 h=>ai (g1 h20)<|ai (g1 h20)<|ai (g1 h20)<|ai (g1 h20)<|ai (g0 h19)<|ai h20<|ai h19<|aJ h (gd dp hp k0 hk_k0 hz c0 a0 r3 x5 x7 u7_1 u8_1 u9_1 u10_1 false [(.b false),.sk,.sk,.sk,.sk,(.b (a0.Kind !=7)),(.b (a0.Kind !=7)),(I a0.Kind),(W w 0),(W w 1),(W w 2),(W w 3),(W w 4),(W w 5),(W w 6),(W w 7),(W w 8),(W w 9),(W w 10),(W w 11),(W w 12),(W w 13),(W w 14),(W w 15),(W w 16),(W w 17),(W w 18),(W w 19),(W w 20),(W w 21),(W w 22),(W w 23),(W w 24),(W w 25),(W w 26),(W w 27),(W w 28),(W w 29),(W w 30),(W w 31),(W w 32),(W w 33)]) fun x21 h=>L h))
def mD:List cV:=(gM 117 116)::⟨some 118,.mv 9,some ⟨117,false⟩,false⟩::⟨some 119,.no 118,some ⟨117,false⟩,false⟩::⟨some 120,.mv 119,some ⟨117,false⟩,false⟩::⟨some 121,.fa 7 3,some ⟨120,true⟩,false⟩::⟨some 122,.ld none 121,some ⟨120,true⟩,false⟩::⟨some 123,.ln false 122,some ⟨120,true⟩,false⟩::⟨some 124,.bo .gtr false 123 (kI 0),some ⟨120,true⟩,false⟩::⟨some 125,.pk 120 124 (.c (.b false)),some ⟨117,false⟩,false⟩::(gp 126 (.pk 117 (.c (.b true)) 125))::lh
def cL(r3:(Bool×Bool×Bool))(x5:Bool)(x7:Bool)(u7_1:Bool)(u8_1:Bool)(u9_1:Bool):Option Bool:=
 if u9_1=true then
  (cD c0 a0 r3 x5 x7 u7_1 u8_1 u9_1 true).bind fun (x18:Bool)=>
  some x18
 else
  if 7≤a0.Kind then
   (cD c0 a0 r3 x5 x7 u7_1 u8_1 u9_1 false).bind fun (x19:Bool)=>
   some x19
  else
   (cD c0 a0 r3 x5 x7 u7_1 u8_1 u9_1 (decide (0<(a0.Then.length:Int)))).bind fun (x19:Bool)=>
   some x19
abbrev rM(c0:Checker)(a0:Stmt)(r3:(Bool×Bool×Bool))(x5:Bool)(x7:Bool)(u7_1:Bool)(u8_1:Bool)(u9_1:Bool)(x:Bool):St:=⟨[(0,(.p k0 0)),(3,(.p ⟨dp,3⟩ 0)),(5,(I a0.Kind)),(8,(.b r3.2.2)),(82,(.b x))],[(3,(av a0))],aj hp k0 (ad c0)⟩
theorem gX(hk_k0:k0.dp<dp)(hz:aS dp hp)(c0:Checker)(a0:Stmt)(r3:(Bool×Bool×Bool))(x5:Bool)(x7:Bool)(u7_1:Bool)(u8_1:Bool)(u9_1:Bool)(w:List AV)(x:Bool)(h:cL c0 a0 r3 x5 x7 u7_1 u8_1 u9_1=some x):jF G Ω0 ⟨dp,true⟩ [0,3,5,8,82] [0,3] mD ⟨[(116,(.b u9_1)),(115,(W w 0)),(114,(W w 1)),(113,(W w 2)),(112,(W w 3)),(111,(W w 4)),(110,(W w 5)),(109,(W w 6)),(108,(W w 7)),(107,(.b u8_1)),(106,(.b u8_1)),(105,(W w 8)),(104,(W w 9)),(103,(W w 10)),(102,(W w 11)),(101,(W w 12)),(100,(W w 13)),(99,(.b u7_1)),(98,(.b u7_1)),(97,(W w 14)),(96,(W w 15)),(95,(W w 16)),(94,(W w 17)),(93,(W w 18)),(92,(W w 19)),(91,(W w 20)),(90,(W w 21)),(89,(W w 22)),(88,(W w 23)),(87,(W w 24)),(86,(W w 25)),(85,(.b (!r3.1))),(84,(.b (!r3.1))),(83,(.b r3.1)),(0,(.p k0 0)),(3,(.p ⟨dp,3⟩ 0)),(5,(I a0.Kind)),(6,(.b r3.1)),(7,(.b r3.2.1)),(8,(.b r3.2.2)),(9,(.b (decide (7≤a0.Kind)))),(10,(.b x5)),(48,(.b x7))],[(3,(av a0))],aj hp k0 (ad c0)⟩=some (rM dp hp k0 c0 a0 r3 x5 x7 u7_1 u8_1 u9_1 x):=
 jk (.or (yz<|.jb (some 127) 10<|.ex fun (x18:Bool)=>ao (.jn ⟨[(0,(.p k0 0)),(3,(.p ⟨dp,3⟩ 0)),(5,(I a0.Kind)),(8,(.b r3.2.2)),(82,(.b x18))],[(3,(av a0))],aj hp k0 (ad c0)⟩)<|.nil) (fO<|.or (HJ<|.jb (some 127) 10<|.ex fun (x19:Bool)=>ao (.jn ⟨[(0,(.p k0 0)),(3,(.p ⟨dp,3⟩ 0)),(5,(I a0.Kind)),(8,(.b r3.2.2)),(82,(.b x19))],[(3,(av a0))],aj hp k0 (ad c0)⟩)<|.nil) (uM<|ao (.i (a0.Then.length:Int))<|FB<|.jb (some 127) 10<|.ex fun (x19:Bool)=>ao (.jn ⟨[(0,(.p k0 0)),(3,(.p ⟨dp,3⟩ 0)),(5,(I a0.Kind)),(8,(.b r3.2.2)),(82,(.b x19))],[(3,(av a0))],aj hp k0 (ad c0)⟩)<|.nil))) fun L=>bb h (fun h17 h=>yw h17<|aJ h (gh dp hp k0 hk_k0 hz c0 a0 r3 x5 x7 u7_1 u8_1 u9_1 true [.sk,.sk,.sk,.sk,.sk,.sk,.sk,.sk,(W w 0),(W w 1),(W w 2),(W w 3),(W w 4),(W w 5),(W w 6),(W w 7),(W w 8),(W w 9),(W w 10),(W w 11),(W w 12),(W w 13),(W w 14),(W w 15),(W w 16),(W w 17),(W w 18),(W w 19),(W w 20),(W w 21),(W w 22),(W w 23),(W w 24),(W w 25)]) fun x18 h=>L h) (fun h17 h=>yx h17<|bQ h (fun h18 h=>ai (g1 (congrArg not (decide_eq_true h18)))<|ai (g1 (congrArg not (decide_eq_true h18)))<|ai (g1 (congrArg not (decide_eq_true h18)))<|ai (g1 (congrArg not (decide_eq_true h18)))<|ai (g0 h17)<|ai (congrArg not (decide_eq_true h18))<|ai h17<|aJ h (gh dp hp k0 hk_k0 hz c0 a0 r3 x5 x7 u7_1 u8_1 u9_1 false [(.b false),.sk,.sk,.sk,.sk,(.b (!(decide (7≤a0.Kind)))),(.b (!(decide (7≤a0.Kind)))),(.b (decide (7≤a0.Kind))),(W w 0),(W w 1),(W w 2),(W w 3),(W w 4),(W w 5),(W w 6),(W w 7),(W w 8),(W w 9),(W w 10),(W w 11),(W w 12),(W w 13),(W w 14),(W w 15),(W w 16),(W w 17),(W w 18),(W w 19),(W w 20),(W w 21),(W w 22),(W w 23),(W w 24),(W w 25)]) fun x19 h=>L h) (fun h18 h=>vd (congrArg not (decide_eq_false h18))<|ai (rN dp)<|ai (g1 (congrArg not (decide_eq_false h18)))<|ai (ay aI a0.Then)<|ai (g1 (congrArg not (decide_eq_false h18)))<|ai (g0 h17)<|ai (congrArg not (decide_eq_false h18))<|ai h17<|aJ h (gh dp hp k0 hk_k0 hz c0 a0 r3 x5 x7 u7_1 u8_1 u9_1 (decide (0<(a0.Then.length:Int))) [(.b (decide (0<(a0.Then.length:Int)))),(.b (decide (0<(a0.Then.length:Int)))),(I (a0.Then.length:Int)),(.l 74 (a0.Then.map aI)),(.p ⟨dp,3⟩ 7),(.b (!(decide (7≤a0.Kind)))),(.b (!(decide (7≤a0.Kind)))),(.b (decide (7≤a0.Kind))),(W w 0),(W w 1),(W w 2),(W w 3),(W w 4),(W w 5),(W w 6),(W w 7),(W w 8),(W w 9),(W w 10),(W w 11),(W w 12),(W w 13),(W w 14),(W w 15),(W w 16),(W w 17),(W w 18),(W w 19),(W w 20),(W w 21),(W w 22),(W w 23),(W w 24),(W w 25)]) fun x19 h=>L h))
def mE:List cV:=(gM 107 106)::⟨some 108,.mv 5,some ⟨107,false⟩,false⟩::⟨some 109,.bo .neq false 108 (kI 2),some ⟨107,false⟩,false⟩::⟨some 110,.mv 109,some ⟨107,false⟩,false⟩::⟨some 111,.fa 6 3,some ⟨110,true⟩,false⟩::⟨some 112,.ld none 111,some ⟨110,true⟩,false⟩::⟨some 113,.ln false 112,some ⟨110,true⟩,false⟩::⟨some 114,.bo .gtr false 113 (kI 0),some ⟨110,true⟩,false⟩::⟨some 115,.pk 110 114 (.c (.b false)),some ⟨107,false⟩,false⟩::(gp 116 (.pk 107 (.c (.b true)) 115))::mD
def cM(r3:(Bool×Bool×Bool))(x5:Bool)(x7:Bool)(u7_1:Bool)(u8_1:Bool):Option Bool:=
 if u8_1=true then
  (cL c0 a0 r3 x5 x7 u7_1 u8_1 true).bind fun (x16:Bool)=>
  some x16
 else
  if (a0.Kind !=2)=true then
   (cL c0 a0 r3 x5 x7 u7_1 u8_1 (decide (0<(a0.Args.length:Int)))).bind fun (x17:Bool)=>
   some x17
  else
   (cL c0 a0 r3 x5 x7 u7_1 u8_1 false).bind fun (x17:Bool)=>
   some x17
abbrev rO(c0:Checker)(a0:Stmt)(r3:(Bool×Bool×Bool))(x5:Bool)(x7:Bool)(u7_1:Bool)(u8_1:Bool)(x:Bool):St:=⟨[(0,(.p k0 0)),(3,(.p ⟨dp,3⟩ 0)),(5,(I a0.Kind)),(8,(.b r3.2.2)),(82,(.b x))],[(3,(av a0))],aj hp k0 (ad c0)⟩
theorem gY(hk_k0:k0.dp<dp)(hz:aS dp hp)(c0:Checker)(a0:Stmt)(r3:(Bool×Bool×Bool))(x5:Bool)(x7:Bool)(u7_1:Bool)(u8_1:Bool)(w:List AV)(x:Bool)(h:cM c0 a0 r3 x5 x7 u7_1 u8_1=some x):jF G Ω0 ⟨dp,true⟩ [0,3,5,8,82] [0,3] mE ⟨[(106,(.b u8_1)),(105,(W w 0)),(104,(W w 1)),(103,(W w 2)),(102,(W w 3)),(101,(W w 4)),(100,(W w 5)),(99,(.b u7_1)),(98,(.b u7_1)),(97,(W w 6)),(96,(W w 7)),(95,(W w 8)),(94,(W w 9)),(93,(W w 10)),(92,(W w 11)),(91,(W w 12)),(90,(W w 13)),(89,(W w 14)),(88,(W w 15)),(87,(W w 16)),(86,(W w 17)),(85,(.b (!r3.1))),(84,(.b (!r3.1))),(83,(.b r3.1)),(0,(.p k0 0)),(3,(.p ⟨dp,3⟩ 0)),(5,(I a0.Kind)),(6,(.b r3.1)),(7,(.b r3.2.1)),(8,(.b r3.2.2)),(9,(.b (decide (7≤a0.Kind)))),(10,(.b x5)),(48,(.b x7))],[(3,(av a0))],aj hp k0 (ad c0)⟩=some (rO dp hp k0 c0 a0 r3 x5 x7 u7_1 u8_1 x):=
 jk (.or (yz<|.jb (some 117) 20<|.ex fun (x16:Bool)=>ao (.jn ⟨[(0,(.p k0 0)),(3,(.p ⟨dp,3⟩ 0)),(5,(I a0.Kind)),(8,(.b r3.2.2)),(82,(.b x16))],[(3,(av a0))],aj hp k0 (ad c0)⟩)<|.nil) (fO<|.or (uM<|ao (.i (a0.Args.length:Int))<|FB<|.jb (some 117) 20<|.ex fun (x17:Bool)=>ao (.jn ⟨[(0,(.p k0 0)),(3,(.p ⟨dp,3⟩ 0)),(5,(I a0.Kind)),(8,(.b r3.2.2)),(82,(.b x17))],[(3,(av a0))],aj hp k0 (ad c0)⟩)<|.nil) (HJ<|.jb (some 117) 20<|.ex fun (x17:Bool)=>ao (.jn ⟨[(0,(.p k0 0)),(3,(.p ⟨dp,3⟩ 0)),(5,(I a0.Kind)),(8,(.b r3.2.2)),(82,(.b x17))],[(3,(av a0))],aj hp k0 (ad c0)⟩)<|.nil))) fun L=>bb h (fun h15 h=>yw h15<|aJ h (gX dp hp k0 hk_k0 hz c0 a0 r3 x5 x7 u7_1 u8_1 true [.sk,.sk,.sk,.sk,.sk,.sk,.sk,.sk,(W w 0),(W w 1),(W w 2),(W w 3),(W w 4),(W w 5),(W w 6),(W w 7),(W w 8),(W w 9),(W w 10),(W w 11),(W w 12),(W w 13),(W w 14),(W w 15),(W w 16),(W w 17)]) fun x16 h=>L h) (fun h15 h=>yx h15<|bb h (fun h16 h=>vd h16<|ai (rN dp)<|ai (g1 h16)<|ai (ay aG a0.Args)<|ai (g1 h16)<|ai (g0 h15)<|ai h16<|ai h15<|aJ h (gX dp hp k0 hk_k0 hz c0 a0 r3 x5 x7 u7_1 u8_1 (decide (0<(a0.Args.length:Int))) [(.b (decide (0<(a0.Args.length:Int)))),(.b (decide (0<(a0.Args.length:Int)))),(I (a0.Args.length:Int)),(.l 53 (a0.Args.map aG)),(.p ⟨dp,3⟩ 6),(.b (a0.Kind !=2)),(.b (a0.Kind !=2)),(I a0.Kind),(W w 0),(W w 1),(W w 2),(W w 3),(W w 4),(W w 5),(W w 6),(W w 7),(W w 8),(W w 9),(W w 10),(W w 11),(W w 12),(W w 13),(W w 14),(W w 15),(W w 16),(W w 17)]) fun x17 h=>L h) (fun h16 h=>ai (g1 h16)<|ai (g1 h16)<|ai (g1 h16)<|ai (g1 h16)<|ai (g0 h15)<|ai h16<|ai h15<|aJ h (gX dp hp k0 hk_k0 hz c0 a0 r3 x5 x7 u7_1 u8_1 false [(.b false),.sk,.sk,.sk,.sk,(.b (a0.Kind !=2)),(.b (a0.Kind !=2)),(I a0.Kind),(W w 0),(W w 1),(W w 2),(W w 3),(W w 4),(W w 5),(W w 6),(W w 7),(W w 8),(W w 9),(W w 10),(W w 11),(W w 12),(W w 13),(W w 14),(W w 15),(W w 16),(W w 17)]) fun x17 h=>L h))
def mF:List cV:=(gM 99 98)::⟨some 100,.mv 8,some ⟨99,false⟩,false⟩::⟨some 101,.no 100,some ⟨99,false⟩,false⟩::⟨some 102,.mv 101,some ⟨99,false⟩,false⟩::⟨some 103,.mv 10,some ⟨102,true⟩,false⟩::⟨some 104,.no 103,some ⟨102,true⟩,false⟩::⟨some 105,.pk 102 104 (.c (.b false)),some ⟨99,false⟩,false⟩::(gp 106 (.pk 99 (.c (.b true)) 105))::mE
def bK(r3:(Bool×Bool×Bool))(x5:Bool)(x7:Bool)(u7_1:Bool):Option Bool:=
 if u7_1=true then
  (cM c0 a0 r3 x5 x7 u7_1 true).bind fun (x14:Bool)=>
  some x14
 else
  if r3.2.2=true then
   (cM c0 a0 r3 x5 x7 u7_1 false).bind fun (x15:Bool)=>
   some x15
  else
   (cM c0 a0 r3 x5 x7 u7_1 (!x5)).bind fun (x15:Bool)=>
   some x15
abbrev rP(c0:Checker)(a0:Stmt)(r3:(Bool×Bool×Bool))(x5:Bool)(x7:Bool)(u7_1:Bool)(x:Bool):St:=⟨[(0,(.p k0 0)),(3,(.p ⟨dp,3⟩ 0)),(5,(I a0.Kind)),(8,(.b r3.2.2)),(82,(.b x))],[(3,(av a0))],aj hp k0 (ad c0)⟩
theorem dv(hk_k0:k0.dp<dp)(hz:aS dp hp)(c0:Checker)(a0:Stmt)(r3:(Bool×Bool×Bool))(x5:Bool)(x7:Bool)(u7_1:Bool)(w:List AV)(x:Bool)(h:bK c0 a0 r3 x5 x7 u7_1=some x):jF G Ω0 ⟨dp,true⟩ [0,3,5,8,82] [0,3] mF ⟨[(98,(.b u7_1)),(97,(W w 0)),(96,(W w 1)),(95,(W w 2)),(94,(W w 3)),(93,(W w 4)),(92,(W w 5)),(91,(W w 6)),(90,(W w 7)),(89,(W w 8)),(88,(W w 9)),(87,(W w 10)),(86,(W w 11)),(85,(.b (!r3.1))),(84,(.b (!r3.1))),(83,(.b r3.1)),(0,(.p k0 0)),(3,(.p ⟨dp,3⟩ 0)),(5,(I a0.Kind)),(6,(.b r3.1)),(7,(.b r3.2.1)),(8,(.b r3.2.2)),(9,(.b (decide (7≤a0.Kind)))),(10,(.b x5)),(48,(.b x7))],[(3,(av a0))],aj hp k0 (ad c0)⟩=some (rP dp hp k0 c0 a0 r3 x5 x7 u7_1 x):=
 jk (.or (yz<|.jb (some 107) 30<|.ex fun (x14:Bool)=>ao (.jn ⟨[(0,(.p k0 0)),(3,(.p ⟨dp,3⟩ 0)),(5,(I a0.Kind)),(8,(.b r3.2.2)),(82,(.b x14))],[(3,(av a0))],aj hp k0 (ad c0)⟩)<|.nil) (fO<|.or (bf<|bf<|bt<|bf<|bf<|.jb (some 107) 30<|.ex fun (x15:Bool)=>ao (.jn ⟨[(0,(.p k0 0)),(3,(.p ⟨dp,3⟩ 0)),(5,(I a0.Kind)),(8,(.b r3.2.2)),(82,(.b x15))],[(3,(av a0))],aj hp k0 (ad c0)⟩)<|.nil) (HH<|.jb (some 107) 30<|.ex fun (x15:Bool)=>ao (.jn ⟨[(0,(.p k0 0)),(3,(.p ⟨dp,3⟩ 0)),(5,(I a0.Kind)),(8,(.b r3.2.2)),(82,(.b x15))],[(3,(av a0))],aj hp k0 (ad c0)⟩)<|.nil))) fun L=>bb h (fun h13 h=>yw h13<|aJ h (gY dp hp k0 hk_k0 hz c0 a0 r3 x5 x7 u7_1 true [.sk,.sk,.sk,.sk,.sk,.sk,(W w 0),(W w 1),(W w 2),(W w 3),(W w 4),(W w 5),(W w 6),(W w 7),(W w 8),(W w 9),(W w 10),(W w 11)]) fun x14 h=>L h) (fun h13 h=>yx h13<|bb h (fun h14 h=>vd (congrArg not h14)<|ai (g0 h13)<|ai (congrArg not h14)<|ai h13<|aJ h (gY dp hp k0 hk_k0 hz c0 a0 r3 x5 x7 u7_1 false [(.b false),.sk,.sk,(.b (!r3.2.2)),(.b (!r3.2.2)),(.b r3.2.2),(W w 0),(W w 1),(W w 2),(W w 3),(W w 4),(W w 5),(W w 6),(W w 7),(W w 8),(W w 9),(W w 10),(W w 11)]) fun x15 h=>L h) (fun h14 h=>vd (congrArg not h14)<|ai (g0 h13)<|ai (congrArg not h14)<|ai h13<|aJ h (gY dp hp k0 hk_k0 hz c0 a0 r3 x5 x7 u7_1 (!x5) [(.b (!x5)),(.b (!x5)),(.b x5),(.b (!r3.2.2)),(.b (!r3.2.2)),(.b r3.2.2),(W w 0),(W w 1),(W w 2),(W w 3),(W w 4),(W w 5),(W w 6),(W w 7),(W w 8),(W w 9),(W w 10),(W w 11)]) fun x15 h=>L h))
def rQ:List cV:=(gM 83 6)::(gp 84 (.no 83))::(gM 85 84)::⟨some 86,.fa 1 3,some ⟨85,true⟩,false⟩::⟨some 87,.ld none 86,some ⟨85,true⟩,false⟩::⟨some 88,.bo .neq false 87 (kI 0),some ⟨85,true⟩,false⟩::(gp 89 (.pk 85 88 (.c (.b false))))::(gM 90 89)::⟨some 91,.mv 7,some ⟨90,false⟩,false⟩::⟨some 92,.no 91,some ⟨90,false⟩,false⟩::⟨some 93,.mv 92,some ⟨90,false⟩,false⟩::⟨some 94,.fa 2 3,some ⟨93,true⟩,false⟩::⟨some 95,.ld none 94,some ⟨93,true⟩,false⟩::⟨some 96,.bo .neq false 95 (kI 0),some ⟨93,true⟩,false⟩::⟨some 97,.pk 93 96 (.c (.b false)),some ⟨90,false⟩,false⟩::(gp 98 (.pk 90 (.c (.b true)) 97))::mF
def eP(r3:(Bool×Bool×Bool))(x5:Bool)(x7:Bool):Option Bool:=
 if r3.1=true then
  if r3.2.1=true then
   (bK c0 a0 r3 x5 x7 false).bind fun (x12:Bool)=>
   some x12
  else
   (bK c0 a0 r3 x5 x7 (a0.Other !=0)).bind fun (x12:Bool)=>
   some x12
 else
  if (a0.Var !=0)=true then
   (bK c0 a0 r3 x5 x7 true).bind fun (x12:Bool)=>
   some x12
  else
   if r3.2.1=true then
    (bK c0 a0 r3 x5 x7 false).bind fun (x13:Bool)=>
    some x13
   else
    (bK c0 a0 r3 x5 x7 (a0.Other !=0)).bind fun (x13:Bool)=>
    some x13
abbrev rR(c0:Checker)(a0:Stmt)(r3:(Bool×Bool×Bool))(x5:Bool)(x7:Bool)(x:Bool):St:=⟨[(0,(.p k0 0)),(3,(.p ⟨dp,3⟩ 0)),(5,(I a0.Kind)),(8,(.b r3.2.2)),(82,(.b x))],[(3,(av a0))],aj hp k0 (ad c0)⟩
theorem q8(hk_k0:k0.dp<dp)(hz:aS dp hp)(c0:Checker)(a0:Stmt)(r3:(Bool×Bool×Bool))(x5:Bool)(x7:Bool)(x:Bool)(h:eP c0 a0 r3 x5 x7=some x):jF G Ω0 ⟨dp,true⟩ [0,3,5,8,82] [0,3] rQ ⟨[(0,(.p k0 0)),(3,(.p ⟨dp,3⟩ 0)),(5,(I a0.Kind)),(6,(.b r3.1)),(7,(.b r3.2.1)),(8,(.b r3.2.2)),(9,(.b (decide (7≤a0.Kind)))),(10,(.b x5)),(48,(.b x7))],[(3,(av a0))],aj hp k0 (ad c0)⟩=some (rR dp hp k0 c0 a0 r3 x5 x7 x):=
 jk (.or (bf<|bf<|bf<|bf<|bt<|bt<|bt<|.or (Jt<|.jb (some 99) 38<|.ex fun (x12:Bool)=>ao (.jn ⟨[(0,(.p k0 0)),(3,(.p ⟨dp,3⟩ 0)),(5,(I a0.Kind)),(8,(.b r3.2.2)),(82,(.b x12))],[(3,(av a0))],aj hp k0 (ad c0)⟩)<|.nil) (Gn<|.jb (some 99) 38<|.ex fun (x12:Bool)=>ao (.jn ⟨[(0,(.p k0 0)),(3,(.p ⟨dp,3⟩ 0)),(5,(I a0.Kind)),(8,(.b r3.2.2)),(82,(.b x12))],[(3,(av a0))],aj hp k0 (ad c0)⟩)<|.nil)) (oi<|.or (yz<|.jb (some 99) 38<|.ex fun (x12:Bool)=>ao (.jn ⟨[(0,(.p k0 0)),(3,(.p ⟨dp,3⟩ 0)),(5,(I a0.Kind)),(8,(.b r3.2.2)),(82,(.b x12))],[(3,(av a0))],aj hp k0 (ad c0)⟩)<|.nil) (fO<|.or (Jt<|.jb (some 99) 38<|.ex fun (x13:Bool)=>ao (.jn ⟨[(0,(.p k0 0)),(3,(.p ⟨dp,3⟩ 0)),(5,(I a0.Kind)),(8,(.b r3.2.2)),(82,(.b x13))],[(3,(av a0))],aj hp k0 (ad c0)⟩)<|.nil) (Gn<|.jb (some 99) 38<|.ex fun (x13:Bool)=>ao (.jn ⟨[(0,(.p k0 0)),(3,(.p ⟨dp,3⟩ 0)),(5,(I a0.Kind)),(8,(.b r3.2.2)),(82,(.b x13))],[(3,(av a0))],aj hp k0 (ad c0)⟩)<|.nil)))) fun L=>bb h (fun h10 h=>ai (g1 (congrArg not h10))<|ai (g1 (congrArg not h10))<|ai (g1 (congrArg not h10))<|ai (congrArg not h10)<|ai hf<|ai hf<|ai hf<|bb h (fun h11 h=>ai (g1 (congrArg not h11))<|ai (g1 (congrArg not h11))<|ai (g1 (congrArg not h11))<|ai hf<|ai (congrArg not h11)<|ai ff<|aJ h (dv dp hp k0 hk_k0 hz c0 a0 r3 x5 x7 false [(.b false),.sk,.sk,.sk,(.b (!r3.2.1)),(.b (!r3.2.1)),(.b r3.2.1),(.b false),(.b false),.sk,.sk,.sk]) fun x12 h=>L h) (fun h11 h=>vd (congrArg not h11)<|ai (rN dp)<|ai (g1 (congrArg not h11))<|ai hf<|ai (congrArg not h11)<|ai ff<|aJ h (dv dp hp k0 hk_k0 hz c0 a0 r3 x5 x7 (a0.Other !=0) [(.b (a0.Other !=0)),(.b (a0.Other !=0)),(I a0.Other),(.p ⟨dp,3⟩ 2),(.b (!r3.2.1)),(.b (!r3.2.1)),(.b r3.2.1),(.b false),(.b false),.sk,.sk,.sk]) fun x12 h=>L h)) (fun h10 h=>vd (congrArg not h10)<|ai (rN dp)<|Ei (congrArg not h10)<|bb h (fun h11 h=>yw h11<|aJ h (dv dp hp k0 hk_k0 hz c0 a0 r3 x5 x7 true [.sk,.sk,.sk,.sk,.sk,.sk,.sk,(.b (a0.Var !=0)),(.b (a0.Var !=0)),(.b (a0.Var !=0)),(I a0.Var),(.p ⟨dp,3⟩ 1)]) fun x12 h=>L h) (fun h11 h=>yx h11<|bb h (fun h12 h=>zL (congrArg not h12)<|ai (g0 h11)<|ai (congrArg not h12)<|ai h11<|aJ h (dv dp hp k0 hk_k0 hz c0 a0 r3 x5 x7 false [(.b false),.sk,.sk,.sk,(.b (!r3.2.1)),(.b (!r3.2.1)),(.b r3.2.1),(.b (a0.Var !=0)),(.b (a0.Var !=0)),(.b (a0.Var !=0)),(I a0.Var),(.p ⟨dp,3⟩ 1)]) fun x13 h=>L h) (fun h12 h=>vd (congrArg not h12)<|ai (rN dp)<|ai (g1 (congrArg not h12))<|ai (g0 h11)<|ai (congrArg not h12)<|ai h11<|aJ h (dv dp hp k0 hk_k0 hz c0 a0 r3 x5 x7 (a0.Other !=0) [(.b (a0.Other !=0)),(.b (a0.Other !=0)),(I a0.Other),(.p ⟨dp,3⟩ 2),(.b (!r3.2.1)),(.b (!r3.2.1)),(.b r3.2.1),(.b (a0.Var !=0)),(.b (a0.Var !=0)),(.b (a0.Var !=0)),(I a0.Var),(.p ⟨dp,3⟩ 1)]) fun x13 h=>L h)))
def dS(v0_173:Nat):Option (Nat⊕(Int⊕(Nat×Bool))):=
 if (v0_173:Int)<(a0.Args.length:Int) then
  (a0.Args[v0_173]?).bind fun (y24:aw)=>
  (gR y24 (c0.p.Vars.length:Int)).bind fun (r26:Int)=>
  if (r26 !=0)=true then
   some (.inr (.inl r26))
  else
   if IntKind.i64.wrap ((v0_173:Int)+1)=((v0_173+1:Nat):Int) then
    some (.inl (v0_173+1))
   else none
 else
  some (.inr (.inr (v0_173,decide ((v0_173:Int)<(a0.Args.length:Int)))))
abbrev sL(dp:Nat)(hp:HP)(k0:Key)(c0:Checker)(a0:Stmt)(v:Nat):St:=⟨[(0,(.p k0 0)),(171,(.l 53 (a0.Args.map aG))),(172,(I (a0.Args.length:Int))),(173,(I (v:Int)))],[],aj hp k0 (ad c0)⟩
abbrev sM(dp:Nat)(hp:HP)(k0:Key)(c0:Checker)(a0:Stmt)(x:(Int⊕(Nat×Bool))):aE×St:=match x with | .inl z1=>(.ret,⟨[(4,(I z1))],[],aj hp k0 (ad c0)⟩) | .inr (z1,z2)=>((.ex 1),⟨[(0,(.p k0 0)),(171,(.l 53 (a0.Args.map aG))),(172,(I (a0.Args.length:Int))),(173,(I (z1:Int))),(174,(.b z2))],[],aj hp k0 (ad c0)⟩)
theorem rS(hk_k0:k0.dp<dp)(hz:aS dp hp)(c0:Checker)(a0:Stmt)(v0_173:Nat)(o:Nat⊕(Int⊕(Nat×Bool)))(h:dS c0 a0 v0_173=some o):bG ⟨dp,true⟩ Jc (sL dp hp k0 c0 a0) (sM dp hp k0 c0 a0) v0_173 o:=
 bO (.or (bt<|ao (.n v0_173)<|.ex fun (y24:aw)=>ao (.v (.a (dc y24)))<|FB<|ao (.l (ad c0))<|ao (.i (c0.p.Vars.length:Int))<|xI fun r26=>oN (ao (.i ((v0_173+1:Nat):Int))<|.nil)) (bf<|.nil)) fun L=>bQ h (fun h23 h=>ai (decide_eq_true h23)<|ai (rI v0_173)<|cw h fun y24 h25 h=>ai (qR aG h25 (iJ _))<|ai ((by simp [dc,AV.aW,AV.bR,AV.deep,AV.bN,bH hk_k0,Nat.le_of_lt hk_k0]):(([(176,(.a (dc y24))),(175,(.e (.a (dc y24)) 0)),(0,(.p k0 0)),(171,(.l 53 (a0.Args.map aG))),(172,(I (a0.Args.length:Int))),(173,(I (v0_173:Int)))]:List (Nat×AV)).all (fun y=>y.2.aW ⟨dp,13⟩)&&([]:List (Nat×List AV)).all (fun y=>AV.bR ⟨dp,13⟩ y.2))=true)<|ai (rfl:dp=dp)<|ai (rN dp)<|ai tt<|ai (rN dp)<|ai tt<|ai (rN dp)<|ai tt<|ai tt<|ai tt<|ai tt<|ai tt<|ai (Nat.ne_of_lt hk_k0)<|ai (cY hp k0 (ad c0))<|ai tt<|ai (ay bB c0.p.Vars)<|ai tt<|aJ h (oq y24 (c0.p.Vars.length:Int)) fun r26 h=>bb h (fun h28 h=>ai h28<|L h) (fun h28 h=>ai h28<|aV h fun w29 h=>ai w29<|L h)) (fun h23 h=>ai (decide_eq_false h23)<|L h)
def dL:Option (Int⊕Unit):=
 (lp (fun v=>dS c0 a0 v) 0).bind fun (x23:(Int⊕(Nat×Bool)))=>match x23 with
 | .inl ya_24=>
  some (.inl ya_24)
 | .inr yb_24=>
  some (.inr ())
abbrev rT(dp:Nat)(hp:HP)(k0:Key)(c0:Checker)(a0:Stmt)(x:(Int⊕Unit)):aE×St:=match x with | .inl z1=>(.ret,⟨[(4,(I z1))],[],aj hp k0 (ad c0)⟩) | .inr ()=>(.ret,⟨[(4,(I 0))],[],aj hp k0 (ad c0)⟩)
theorem lj(hk_k0:k0.dp<dp)(hz:aS dp hp)(c0:Checker)(a0:Stmt)(x:(Int⊕Unit))(h:dL c0 a0=some x):run G Ω0 ⟨dp,true⟩ Jd ⟨[(0,(.p k0 0)),(3,(.p ⟨dp,3⟩ 0))],[(3,(av a0))],aj hp k0 (ad c0)⟩=some (rT dp hp k0 c0 a0 x):=
 Fz (bt<|ao (.i (a0.Args.length:Int))<|.or (.ex fun (ya_24:Int)=>ao (.lp .ret ⟨[(4,(I ya_24))],[],aj hp k0 (ad c0)⟩)<|.nil) (.ex fun (yb_24:(Nat×Bool))=>ao (.lp (.ex 1) ⟨[(0,(.p k0 0)),(171,(.l 53 (a0.Args.map aG))),(172,(I (a0.Args.length:Int))),(173,(I (yb_24.1:Int))),(174,(.b yb_24.2))],[],aj hp k0 (ad c0)⟩)<|.nil)) fun L=>ai (rN dp)<|ai (ay aG a0.Args)<|dT h (gu (rS dp hp k0 hk_k0 hz c0 a0) 0) (fun ya_24 h=>L h) (fun yb_24 h=>L h)
def dM(r3:(Bool×Bool×Bool)):Option (Int⊕Unit):=
 if r3.2.2=true then
  (gR a0.Expr (c0.p.Vars.length:Int)).bind fun (r20:Int)=>
  if (r20 !=0)=true then
   some (.inl r20)
  else
   (dL c0 a0).bind fun (x23:(Int⊕Unit))=>match x23 with
   | .inl ya_24=>
    some (.inl ya_24)
   | .inr yb_24=>
    some (.inr ())
 else
  (dL c0 a0).bind fun (x20:(Int⊕Unit))=>match x20 with
  | .inl ya_21=>
   some (.inl ya_21)
  | .inr yb_21=>
   some (.inr ())
abbrev rU(dp:Nat)(hp:HP)(k0:Key)(c0:Checker)(a0:Stmt)(r3:(Bool×Bool×Bool))(x:(Int⊕Unit)):aE×St:=match x with | .inl z1=>(.ret,⟨[(4,(I z1))],[],aj hp k0 (ad c0)⟩) | .inr ()=>(.ret,⟨[(4,(I 0))],[],aj hp k0 (ad c0)⟩)
theorem ll(hk_k0:k0.dp<dp)(hz:aS dp hp)(c0:Checker)(a0:Stmt)(r3:(Bool×Bool×Bool))(x:(Int⊕Unit))(h:dM c0 a0 r3=some x):run G Ω0 ⟨dp,true⟩ Je ⟨[(0,(.p k0 0)),(3,(.p ⟨dp,3⟩ 0)),(8,(.b r3.2.2))],[(3,(av a0))],aj hp k0 (ad c0)⟩=some (rU dp hp k0 c0 a0 r3 x):=
 Fz (.or (bt<|bt<|bf<|ao (.l (ad c0))<|ao (.i (c0.p.Vars.length:Int))<|xI fun r20=>oN (.fb<|.or (.ex fun (ya_24:Int)=>ao (.fr .ret ⟨[(4,(I ya_24))],[],aj hp k0 (ad c0)⟩)<|.nil) (.ex fun (yb_24:Unit)=>ao (.fr .ret ⟨[(4,(I 0))],[],aj hp k0 (ad c0)⟩)<|.nil))) (bf<|.fb<|.or (.ex fun (ya_21:Int)=>ao (.fr .ret ⟨[(4,(I ya_21))],[],aj hp k0 (ad c0)⟩)<|.nil) (.ex fun (yb_21:Unit)=>ao (.fr .ret ⟨[(4,(I 0))],[],aj hp k0 (ad c0)⟩)<|.nil))) fun L=>bb h (fun h19 h=>ai h19<|ai tt<|ai tt<|ai (rN dp)<|ai tt<|ai tt<|ai tt<|ai tt<|ai tt<|ai (Nat.ne_of_lt hk_k0)<|ai (cY hp k0 (ad c0))<|ai tt<|ai (ay bB c0.p.Vars)<|ai tt<|aJ h (oq a0.Expr (c0.p.Vars.length:Int)) fun r20 h=>bb h (fun h22 h=>ai h22<|L h) (fun h22 h=>ai h22<|dT h (lj dp hp k0 hk_k0 hz c0 a0) (fun ya_24 h=>L h) (fun yb_24 h=>L h))) (fun h19 h=>ai h19<|dT h (lj dp hp k0 hk_k0 hz c0 a0) (fun ya_21 h=>L h) (fun yb_21 h=>L h))
abbrev tY(dp:Nat)(hp:HP)(k0:Key)(c0:Checker)(a0:Stmt)(r:Int):aR×HP:=(.ret (I r),aj hp k0 (ad c0))
def gi:Option Int:=
 if a0.Kind<1 then
  some 7
 else
  if 8<a0.Kind then
   some 7
  else
   (nu a0.Kind).bind fun (r3:(Bool×Bool×Bool))=>
   (eN c0 a0 r3).bind fun (x5:Bool)=>
   (eO c0 a0 r3 x5).bind fun (x7:Bool)=>
   if x7=true then
    some 5
   else
    (eP c0 a0 r3 x5 x7).bind fun (x10:Bool)=>
    if x10=true then
     some 1
    else
     if (a0.Kind==2)=true then
      (fY a0.Other).bind fun (j14:Nat)=>
      (c0.p.Funcs[j14]?).bind fun (y16:Func)=>
      if ((a0.Args.length:Int) !=(y16.Params.length:Int))=true then
       some 1
      else
       (dM c0 a0 r3).bind fun (x19:(Int⊕Unit))=>match x19 with
       | .inl ya_20=>
        some ya_20
       | .inr yb_20=>
        some 0
     else
      (dM c0 a0 r3).bind fun (x14:(Int⊕Unit))=>match x14 with
      | .inl ya_15=>
       some ya_15
      | .inr yb_15=>
       some 0
theorem rV(hk_k0:k0.dp<dp)(hz:aS dp hp)(c0:Checker)(a0:Stmt)(r:Int)(h:gi c0 a0=some r):call G Ω0 ⟨dp,true⟩ 65 [(.p k0 0),(.a (av a0))] (aj hp k0 (ad c0))=some (tY dp hp k0 c0 a0 r):=
 aH Uh (bt<|.or (bf<|bf<|bt<|bt<|.nil) (bt<|bt<|bf<|oN (.ex fun (r3:(Bool×Bool×Bool))=>ao (.v (.tp [(.b r3.1),(.b r3.2.1),(.b r3.2.2)]))<|.jb (some 31) 17<|.ex fun (x5:Bool)=>ao (.jn ⟨[(0,(.p k0 0)),(3,(.p ⟨dp,3⟩ 0)),(5,(I a0.Kind)),(6,(.b r3.1)),(7,(.b r3.2.1)),(8,(.b r3.2.2)),(9,(.b (decide (7≤a0.Kind)))),(10,(.b x5))],[(3,(av a0))],aj hp k0 (ad c0)⟩)<|.jb (some 49) 33<|.ex fun (x7:Bool)=>ao (.jn ⟨[(0,(.p k0 0)),(3,(.p ⟨dp,3⟩ 0)),(5,(I a0.Kind)),(6,(.b r3.1)),(7,(.b r3.2.1)),(8,(.b r3.2.2)),(9,(.b (decide (7≤a0.Kind)))),(10,(.b x5)),(48,(.b x7))],[(3,(av a0))],aj hp k0 (ad c0)⟩)<|oN (.jb (some 83) 54<|.ex fun (x10:Bool)=>ao (.jn ⟨[(0,(.p k0 0)),(3,(.p ⟨dp,3⟩ 0)),(5,(I a0.Kind)),(8,(.b r3.2.2)),(82,(.b x10))],[(3,(av a0))],aj hp k0 (ad c0)⟩)<|oN (.or (uM<|ao (.i (a0.Args.length:Int))<|bt<|bt<|bt<|bt<|bt<|bf<|ao (.l (ad c0))<|uM<|xN fun j14=>.ex fun (y16:Func)=>ao (.v (.a (cN y16)))<|fO<|ao (.i (y16.Params.length:Int))<|iI<|oN (.fb<|.or (.ex fun (ya_20:Int)=>ao (.fr .ret ⟨[(4,(I ya_20))],[],aj hp k0 (ad c0)⟩)<|.nil) (.ex fun (yb_20:Unit)=>ao (.fr .ret ⟨[(4,(I 0))],[],aj hp k0 (ad c0)⟩)<|.nil))) (bf<|bf<|bf<|bf<|bf<|bf<|bf<|bf<|bf<|bf<|bf<|bf<|bf<|bf<|bf<|bf<|bf<|.fb<|.or (.ex fun (ya_15:Int)=>ao (.fr .ret ⟨[(4,(I ya_15))],[],aj hp k0 (ad c0)⟩)<|.nil) (.ex fun (yb_15:Unit)=>ao (.fr .ret ⟨[(4,(I 0))],[],aj hp k0 (ad c0)⟩)<|.nil))))))) fun L=>ai ((by simp [av,AV.aW,AV.bR,AV.deep,AV.bN,bH hk_k0,Nat.le_of_lt hk_k0]):(((.a (av a0)):AV).deep dp&&(([(0,(.p k0 0)),(1,(.a (av a0)))]:List (Nat×AV)).all (fun y=>y.2.aW ⟨dp,3⟩)&&([]:List (Nat×List AV)).all (fun y=>AV.bR ⟨dp,3⟩ y.2)))=true)<|ai (rN dp)<|bQ h (fun h1 h=>ai (g0 (decide_eq_true h1))<|ai (g0 (decide_eq_true h1))<|ai (decide_eq_true h1)<|ai tt<|L h) (fun h1 h=>FA (decide_eq_false h1)<|bQ h (fun h2 h=>ai (decide_eq_true h2)<|L h) (fun h2 h=>ai (decide_eq_false h2)<|aJ h (xu a0.Kind) fun r3 h=>aJ h (qZ dp hp k0 hk_k0 hz c0 a0 r3) fun x5 h=>ai tt<|aJ h (q0 dp hp k0 hk_k0 hz c0 a0 r3 x5) fun x7 h=>bb h (fun h9 h=>ai h9<|L h) (fun h9 h=>ai h9<|aJ h (q8 dp hp k0 hk_k0 hz c0 a0 r3 x5 x7) fun x10 h=>bb h (fun h12 h=>ai h12<|L h) (fun h12 h=>ai h12<|ai tt<|ai tt<|ai tt<|ai tt<|bb h (fun h13 h=>ai (g1 h13)<|ai tt<|ai (g1 h13)<|ai (rN dp)<|ai tt<|ai (g1 h13)<|ai (ay aG a0.Args)<|ai tt<|ai (g1 h13)<|ai tt<|ai (g1 h13)<|ai tt<|ai (g1 h13)<|ai tt<|ai (g1 h13)<|ai tt<|ai (g1 h13)<|ai (Nat.ne_of_lt hk_k0)<|ai (cY hp k0 (ad c0))<|ai tt<|ai (g1 h13)<|ai tt<|ai (g1 h13)<|ai (rN dp)<|ai tt<|ai (g1 h13)<|sI h fun j14 h15 h=>ai h15<|cw h fun y16 h17 h=>ai (aZ bC h17)<|ai tt<|ai (g1 h13)<|ai tt<|ai (g1 h13)<|ai tt<|ai (g1 h13)<|ai (ay (I) y16.Params)<|ai tt<|ai (g1 h13)<|ai h13<|bb h (fun h18 h=>ai h18<|L h) (fun h18 h=>ai h18<|dT h (ll dp hp k0 hk_k0 hz c0 a0 r3) (fun ya_20 h=>L h) (fun yb_20 h=>L h))) (fun h13 h=>ai (g1 h13)<|ai (g1 h13)<|ai (g1 h13)<|ai (g1 h13)<|ai (g1 h13)<|ai (g1 h13)<|ai (g1 h13)<|ai (g1 h13)<|ai (g1 h13)<|ai (g1 h13)<|ai (g1 h13)<|ai (g1 h13)<|ai (g1 h13)<|ai (g1 h13)<|ai (g1 h13)<|ai h13<|ai ff<|dT h (ll dp hp k0 hk_k0 hz c0 a0 r3) (fun ya_15 h=>L h) (fun yb_15 h=>L h))))))
end
section
variable (dp:Nat)(hp:HP)(k0:Key)(a0:Stmt)
abbrev rW(dp:Nat)(hp:HP)(k0:Key)(k1:Key)(k2:Key)(a0:Stmt)(a1:Int)(c0:Unit)(c1:Checker)(c2:Int)(r:(Bool×Unit×Int)):aR×HP:=(.ret (.b r.1),aj (aj (aj hp k0 [(.p k1 0)]) k1 (ad c1)) k2 [(I r.2.2)])
def ir(a1:Int)(c0:Unit)(c1:Checker)(c2:Int):Option (Bool×Unit×Int):=
 (gi c1 a0).bind fun (r1:Int)=>
 some ((r1==0),(),r1)
theorem pX(hk_k0:k0.dp<dp)(k1:Key)(hk_k1:k1.dp<dp)(k2:Key)(hk_k2:k2.dp<dp)(hn_k0_k1:k0≠k1)(hn_k0_k2:k0≠k2)(hn_k1_k2:k1≠k2)(hz:aS dp hp)(a0:Stmt)(a1:Int)(c0:Unit)(c1:Checker)(c2:Int)(r:(Bool×Unit×Int))(h:ir a0 a1 c0 c1 c2=some r):call G Ω0 ⟨dp,false⟩ 64 [(.a (av a0)),(I a1),(.p k0 0),(.p k2 0)] (aj (aj (aj hp k0 [(.p k1 0)]) k1 (ad c1)) k2 [(I c2)])=some (rW dp hp k0 k1 k2 a0 a1 c0 c1 c2 r):=
 aH Ug (bf<|ao (.l [(.p k1 0)])<|bt<|xI fun r1=>ao (.h (boxes dp [(4,(av a0))] (aj (aj (aj hp k0 [(.p k1 0)]) k1 (ad c1)) k2 [(I c2)])))<|bf<|ao (.l [(I c2)])<|bf<|ao (.h (aj (aj (aj hp k0 [(.p k1 0)]) k1 (ad c1)) k2 [(I r1)]))<|bf<|ao (.l [(I r1)])<|.nil) fun L=>ai ((by simp [av,AV.aW,AV.bR,AV.deep,AV.bN,bH hk_k0,Nat.le_of_lt hk_k0,bH hk_k1,Nat.le_of_lt hk_k1,bH hk_k2,Nat.le_of_lt hk_k2]):(((.a (av a0)):AV).deep dp&&(([(0,(.a (av a0))),(1,(I a1)),(2,(.p k0 0)),(3,(.p k2 0))]:List (Nat×AV)).all (fun y=>y.2.aW ⟨dp,4⟩)&&([]:List (Nat×List AV)).all (fun y=>AV.bR ⟨dp,4⟩ y.2)))=true)<|ai (Nat.ne_of_lt hk_k0)<|ai (Th hn_k0_k1 hn_k0_k2:(aj (aj (aj hp k0 [(.p k1 0)]) k1 (ad c1)) k2 [(I c2)]) k0=some [(.p k1 0)])<|ai (rN dp)<|ai tt<|cw h fun r1 ek2 h=>have ek2:call G Ω0 ⟨dp+1,true⟩ 65 [(.p k1 0),(.a (av a0))] (boxes dp [(4,(av a0))] (aj (aj (aj hp k0 [(.p k1 0)]) k1 (ad c1)) k2 [(I c2)]))=some (.ret (I r1),boxes dp [(4,(av a0))] (aj (aj (aj hp k0 [(.p k1 0)]) k1 (ad c1)) k2 [(I c2)])):=nT (jG (hp1:=aj (aj (aj hp k0 [(.p k1 0)]) k1 (ad c1)) k2 [(I c2)]) (Nat.ne_of_lt hk_k1) (qS (Ne.symm hn_k1_k2) (jh ..))) (jG (hp1:=aj (aj (aj hp k0 [(.p k1 0)]) k1 (ad c1)) k2 [(I c2)]) (Nat.ne_of_lt hk_k1) (qS (Ne.symm hn_k1_k2) (jh ..))) (rV (dp+1) (boxes dp [(4,(av a0))] (aj (aj (aj hp k0 [(.p k1 0)]) k1 (ad c1)) k2 [(I c2)])) k1 (Nat.lt_succ_of_lt hk_k1) (dO (bc hk_k2 (bc hk_k1 (bc hk_k0 (hz))))) c1 a0 _ ek2);ai ek2<|ai ff<|ai (Nat.ne_of_lt hk_k2)<|ai (cY (aj (aj hp k0 [(.p k1 0)]) k1 (ad c1)) k2 [(I c2)])<|ai tt<|ai (Nat.ne_of_lt hk_k2)<|ai (jh (aj (aj hp k0 [(.p k1 0)]) k1 (ad c1)) k2 [(I c2)] [(I r1)])<|ai (Nat.ne_of_lt hk_k2)<|ai (cY (aj (aj hp k0 [(.p k1 0)]) k1 (ad c1)) k2 [(I r1)])<|L h
end
section
variable (dp:Nat)(hp:HP)(k0:Key)(k1:Key)(k2:Key)(a0:(List Stmt))(a1:Int)(c0:Unit)(c1:Checker)(c2:Int)
abbrev mb(dp:Nat)(hp:HP)(k0:Key)(k1:Key)(k2:Key)(a0:(List Stmt))(a1:Int)(c0:Unit)(c1:Checker)(c2:Int)(r:(Bool×Unit×Int)):aR×HP:=(.ret (.b r.1),aj (aj (aj hp k0 [(.p k1 0)]) k1 (ad c1)) k2 [(I r.2.2)])
abbrev dD(r:(Bool×Unit×Int)):Prop:=call G Ω0 ⟨dp,false⟩ 62 [(.l 74 (a0.map aI)),(I a1),(.f 64 [(.p k0 0),(.p k2 0)])] (aj (aj (aj hp k0 [(.p k1 0)]) k1 (ad c1)) k2 [(I c2)])=some (mb dp hp k0 k1 k2 a0 a1 c0 c1 c2 r)
end
structure dE where
 f_scope_Walk__scope_checker_stmts_1:(List Stmt)→Int→Unit→Checker→Int→Option (Bool×Unit×Int)
structure dw(R:dE):Prop where
 f_scope_Walk__scope_checker_stmts_1:∀ (dp:Nat)(hp:HP)(k0:Key)(hk_k0:k0.dp<dp)(k1:Key)(hk_k1:k1.dp<dp)(k2:Key)(hk_k2:k2.dp<dp)(hn_k0_k1:k0≠k1)(hn_k0_k2:k0≠k2)(hn_k1_k2:k1≠k2)(hz:aS dp hp)(a0:(List Stmt))(a1:Int)(c0:Unit)(c1:Checker)(c2:Int)(r:(Bool×Unit×Int)),R.f_scope_Walk__scope_checker_stmts_1 a0 a1 c0 c1 c2=some r→dD dp hp k0 k1 k2 a0 a1 c0 c1 c2 r
section
variable (R:dE)(a0:(List Stmt))(a1:Int)(c1:Checker)(dp:Nat)(hp:HP)(k0:Key)(c0:Unit)
def cb(v0_11:Nat)(v0_k2_0:Int):Option ((Nat×Int)⊕(Int⊕(Nat×Bool×Int))):=
 if (v0_11:Int)<(a0.length:Int) then
  (a0[v0_11]?).bind fun (y2:Stmt)=>
  (ir y2 a1 () c1 v0_k2_0).bind fun (r4:(Bool×Unit×Int))=>
  if r4.1=true then
   if IntKind.i64.wrap (a1+1)=a1+1 then
    (R.f_scope_Walk__scope_checker_stmts_1 y2.Then (a1+1) () c1 r4.2.2).bind fun (r8:(Bool×Unit×Int))=>
    if r8.1=true then
     (R.f_scope_Walk__scope_checker_stmts_1 y2.Else (a1+1) () c1 r8.2.2).bind fun (r11:(Bool×Unit×Int))=>
     if r11.1=true then
      if IntKind.i64.wrap ((v0_11:Int)+1)=((v0_11+1:Nat):Int) then
       some (.inl (v0_11+1,r11.2.2))
      else none
     else
      some (.inr (.inl r11.2.2))
    else
     some (.inr (.inl r8.2.2))
   else none
  else
   some (.inr (.inl r4.2.2))
 else
  some (.inr (.inr (v0_11,decide ((v0_11:Int)<(a0.length:Int)),v0_k2_0)))
abbrev kR(dp:Nat)(hp:HP)(k0:Key)(k1:Key)(k2:Key)(a0:(List Stmt))(a1:Int)(c1:Checker)(v:(Nat×Int)):St:=⟨[(1,(I a1)),(2,(.f 64 [(.p k0 0),(.p k2 0)])),(9,(.l 74 (a0.map aI))),(10,(I (a0.length:Int))),(11,(I (v.1:Int)))],[],aj (aj (aj hp k0 [(.p k1 0)]) k1 (ad c1)) k2 [(I v.2)]⟩
abbrev kS(dp:Nat)(hp:HP)(k0:Key)(k1:Key)(k2:Key)(a0:(List Stmt))(a1:Int)(c1:Checker)(x:(Int⊕(Nat×Bool×Int))):aE×St:=match x with | .inl z1=>(.ret,⟨[(6,(.b false))],[],aj (aj (aj hp k0 [(.p k1 0)]) k1 (ad c1)) k2 [(I z1)]⟩) | .inr (z1,z2,z3)=>((.ex 0),⟨[(1,(I a1)),(2,(.f 64 [(.p k0 0),(.p k2 0)])),(9,(.l 74 (a0.map aI))),(10,(I (a0.length:Int))),(11,(I (z1:Int))),(12,(.b z2))],[],aj (aj (aj hp k0 [(.p k1 0)]) k1 (ad c1)) k2 [(I z3)]⟩)
theorem kj(hR:dw R)(dp:Nat)(hp:HP)(k0:Key)(hk_k0:k0.dp<dp)(k1:Key)(hk_k1:k1.dp<dp)(k2:Key)(hk_k2:k2.dp<dp)(hn_k0_k1:k0≠k1)(hn_k0_k2:k0≠k2)(hn_k1_k2:k1≠k2)(hz:aS dp hp)(a0:(List Stmt))(a1:Int)(c1:Checker)(v0_11:Nat)(v0_k2_0:Int)(o:(Nat×Int)⊕(Int⊕(Nat×Bool×Int)))(h:cb R a0 a1 c1 v0_11 v0_k2_0=some o):bG ⟨dp,false⟩ Fi (kR dp hp k0 k1 k2 a0 a1 c1) (kS dp hp k0 k1 k2 a0 a1 c1) (v0_11,v0_k2_0) o:=
 bO (.or (bt<|ao (.n v0_11)<|.ex fun (y2:Stmt)=>ao (.v (.a (av y2)))<|fO<|.ex fun (r4:(Bool×Unit×Int))=>ao (.v (.b r4.1))<|ao (.h (boxes dp [(8,(av y2))] (aj (aj (aj hp k0 [(.p k1 0)]) k1 (ad c1)) k2 [(I r4.2.2)])))<|ao (.bx [(8,(av y2))])<|ao (.h (aj (aj (aj hp k0 [(.p k1 0)]) k1 (ad c1)) k2 [(I r4.2.2)]))<|.or (oi<|ao (.i (a1+1))<|iI<|.ex fun (r8:(Bool×Unit×Int))=>ao (.v (.b r8.1))<|ao (.h (boxes dp [(8,(av y2))] (aj (aj (aj hp k0 [(.p k1 0)]) k1 (ad c1)) k2 [(I r8.2.2)])))<|ao (.bx [(8,(av y2))])<|ao (.h (aj (aj (aj hp k0 [(.p k1 0)]) k1 (ad c1)) k2 [(I r8.2.2)]))<|sd<|.or (oi<|ao (.i (a1+1))<|iI<|.ex fun (r11:(Bool×Unit×Int))=>ao (.v (.b r11.1))<|ao (.h (boxes dp [(8,(av y2))] (aj (aj (aj hp k0 [(.p k1 0)]) k1 (ad c1)) k2 [(I r11.2.2)])))<|ao (.bx [(8,(av y2))])<|ao (.h (aj (aj (aj hp k0 [(.p k1 0)]) k1 (ad c1)) k2 [(I r11.2.2)]))<|sd<|.or (bf<|ao (.i ((v0_11+1:Nat):Int))<|.nil) (bt<|.nil)) (Mn<|.nil)) (Mo<|.nil)) (bf<|.nil)) fun L=>bQ h (fun h1 h=>ai (decide_eq_true h1)<|ai (rI v0_11)<|cw h fun y2 h3 h=>ai (qR aI h3 (jH _))<|ai ((by simp [av,AV.aW,AV.bR,AV.deep,AV.bN,bH hk_k0,Nat.le_of_lt hk_k0,bH hk_k1,Nat.le_of_lt hk_k1,bH hk_k2,Nat.le_of_lt hk_k2]):(([(14,(.a (av y2))),(13,(.e (.a (av y2)) 0)),(1,(I a1)),(2,(.f 64 [(.p k0 0),(.p k2 0)])),(9,(.l 74 (a0.map aI))),(10,(I (a0.length:Int))),(11,(I (v0_11:Int)))]:List (Nat×AV)).all (fun y=>y.2.aW ⟨dp,8⟩)&&([]:List (Nat×List AV)).all (fun y=>AV.bR ⟨dp,8⟩ y.2))=true)<|ai ff<|ai (rN dp)<|ai tt<|ai (rN dp)<|ai (rN dp)<|ai ff<|ai tt<|cw h fun r4 ek5 h=>have ek5:=Mk hk_k0 hk_k1 hk_k2 hn_k0_k1 hn_k0_k2 hn_k1_k2 (pX (dp+1) (boxes dp [(8,(av y2))] (aj (aj (aj hp k0 [(.p k1 0)]) k1 (ad c1)) k2 [(I v0_k2_0)])) k0 (Nat.lt_succ_of_lt hk_k0) k1 (Nat.lt_succ_of_lt hk_k1) k2 (Nat.lt_succ_of_lt hk_k2) (hn_k0_k1) (hn_k0_k2) (hn_k1_k2) (dO (bc hk_k2 (bc hk_k1 (bc hk_k0 (hz))))) y2 a1 () c1 v0_k2_0 _ ek5);ai ek5<|ai (uJ ek5 (by kernel_rfl) (by kernel_rfl))<|ai (uK ek5 (bc hk_k2 (bc hk_k1 (bc hk_k0 (hz)))))<|bb h (fun h6 h=>AY (congrArg not h6)<|ai (rN dp)<|AY (congrArg not h6)<|aV h fun w7 h=>ai w7<|ai (g0 (congrArg not h6))<|ai (g0 (congrArg not h6))<|ai ff<|ai tt<|cw h fun r8 ek9 h=>have ek9:=Mk hk_k0 hk_k1 hk_k2 hn_k0_k1 hn_k0_k2 hn_k1_k2 (hR.f_scope_Walk__scope_checker_stmts_1 (dp+1) (boxes dp [(8,(av y2))] (aj (aj (aj hp k0 [(.p k1 0)]) k1 (ad c1)) k2 [(I r4.2.2)])) k0 (Nat.lt_succ_of_lt hk_k0) k1 (Nat.lt_succ_of_lt hk_k1) k2 (Nat.lt_succ_of_lt hk_k2) (hn_k0_k1) (hn_k0_k2) (hn_k1_k2) (dO (bc hk_k2 (bc hk_k1 (bc hk_k0 (hz))))) y2.Then (a1+1) () c1 r4.2.2 _ ek9);ai ek9<|ai (uJ ek9 (by kernel_rfl) (by kernel_rfl))<|ai (uK ek9 (bc hk_k2 (bc hk_k1 (bc hk_k0 (hz)))))<|uL (congrArg not h6)<|bb h (fun h10 h=>AY (congrArg not h10)<|ai (rN dp)<|AY (congrArg not h10)<|ai w7<|ai (g0 (congrArg not h10))<|ai (g0 (congrArg not h10))<|ai ff<|ai tt<|cw h fun r11 ek12 h=>have ek12:=Mk hk_k0 hk_k1 hk_k2 hn_k0_k1 hn_k0_k2 hn_k1_k2 (hR.f_scope_Walk__scope_checker_stmts_1 (dp+1) (boxes dp [(8,(av y2))] (aj (aj (aj hp k0 [(.p k1 0)]) k1 (ad c1)) k2 [(I r8.2.2)])) k0 (Nat.lt_succ_of_lt hk_k0) k1 (Nat.lt_succ_of_lt hk_k1) k2 (Nat.lt_succ_of_lt hk_k2) (hn_k0_k1) (hn_k0_k2) (hn_k1_k2) (dO (bc hk_k2 (bc hk_k1 (bc hk_k0 (hz))))) y2.Else (a1+1) () c1 r8.2.2 _ ek12);ai ek12<|ai (uJ ek12 (by kernel_rfl) (by kernel_rfl))<|ai (uK ek12 (bc hk_k2 (bc hk_k1 (bc hk_k0 (hz)))))<|uL (congrArg not h10)<|bb h (fun h13 h=>ai (congrArg not h13)<|aV h fun w14 h=>ai w14<|L h) (fun h13 h=>ai (congrArg not h13)<|L h)) (fun h10 h=>ai (g0 (congrArg not h10))<|ai (g0 (congrArg not h10))<|ai (g0 (congrArg not h10))<|ai (g0 (congrArg not h10))<|ai (g0 (congrArg not h10))<|ai (g0 (congrArg not h10))<|ai (g0 (congrArg not h10))<|ai (congrArg not h10)<|ai tt<|L h)) (fun h6 h=>ai (g0 (congrArg not h6))<|ai (g0 (congrArg not h6))<|ai (g0 (congrArg not h6))<|ai (g0 (congrArg not h6))<|ai (g0 (congrArg not h6))<|ai (g0 (congrArg not h6))<|ai (g0 (congrArg not h6))<|ai (congrArg not h6)<|ai ht<|ai ht<|ai ht<|ai ht<|ai ht<|ai ht<|ai ht<|ai tt<|ai tt<|L h)) (fun h1 h=>ai (decide_eq_false h1)<|L h)
def ct(c0:Unit)(c1:Checker)(c2:Int):Option (Bool×Unit×Int):=
 (lp (fun v=>cb R a0 a1 c1 v.1 v.2) (0,c2)).bind fun (x1:(Int⊕(Nat×Bool×Int)))=>match x1 with
 | .inl ya_2=>
  some (false,(),ya_2)
 | .inr yb_2=>
  some (true,(),yb_2.2.2)
theorem jT(hR:dw R)(dp:Nat)(hp:HP)(k0:Key)(hk_k0:k0.dp<dp)(k1:Key)(hk_k1:k1.dp<dp)(k2:Key)(hk_k2:k2.dp<dp)(hn_k0_k1:k0≠k1)(hn_k0_k2:k0≠k2)(hn_k1_k2:k1≠k2)(hz:aS dp hp)(a0:(List Stmt))(a1:Int)(c0:Unit)(c1:Checker)(c2:Int)(r:(Bool×Unit×Int))(h:ct R a0 a1 c0 c1 c2=some r):dD dp hp k0 k1 k2 a0 a1 c0 c1 c2 r:=
 aH Sx (ao (.i (a0.length:Int))<|.or (.ex fun (ya_2:Int)=>ao (.lp .ret ⟨[(6,(.b false))],[],aj (aj (aj hp k0 [(.p k1 0)]) k1 (ad c1)) k2 [(I ya_2)]⟩)<|.nil) (.ex fun (yb_2:(Nat×Bool×Int))=>ao (.lp (.ex 0) ⟨[(1,(I a1)),(2,(.f 64 [(.p k0 0),(.p k2 0)])),(9,(.l 74 (a0.map aI))),(10,(I (a0.length:Int))),(11,(I (yb_2.1:Int))),(12,(.b yb_2.2.1))],[],aj (aj (aj hp k0 [(.p k1 0)]) k1 (ad c1)) k2 [(I yb_2.2.2)]⟩)<|.nil)) fun L=>ai (ay aI a0)<|dT h (gu (fun v=>kj R hR dp hp k0 hk_k0 k1 hk_k1 k2 hk_k2 hn_k0_k1 hn_k0_k2 hn_k1_k2 hz a0 a1 c1 v.1 v.2) (0,c2)) (fun ya_2 h=>L h) (fun yb_2 h=>L h)
def bw:Nat→dE
 | 0=>⟨fun z0 z1 z2 z3 z4=>none⟩
 | n+1=>⟨ct (bw n)⟩
theorem fp:∀ n,dw (bw n)
 | 0=>⟨fun _ _ _ _ _ _ _ _ _ _ _ _ _ _ _ _ _ r h=>(by cases h)⟩
 | n+1=>⟨fun dp hp k0 hk_k0 k1 hk_k1 k2 hk_k2 hn_k0_k1 hn_k0_k2 hn_k1_k2 hz a0 a1 c0 c1 c2 r h=>jT _ (fp n) dp hp k0 hk_k0 k1 hk_k1 k2 hk_k2 hn_k0_k1 hn_k0_k2 hn_k1_k2 hz a0 a1 c0 c1 c2 r h⟩
def dF(c1:Checker)(c2:Int):Option (Bool×Unit×Int):=ev fun n=>(bw n).f_scope_Walk__scope_checker_stmts_1 a0 a1 c0 c1 c2
theorem kl(hk_k0:k0.dp<dp)(k1:Key)(hk_k1:k1.dp<dp)(k2:Key)(hk_k2:k2.dp<dp)(hn_k0_k1:k0≠k1)(hn_k0_k2:k0≠k2)(hn_k1_k2:k1≠k2)(hz:aS dp hp)(a0:(List Stmt))(a1:Int)(c0:Unit)(c1:Checker)(c2:Int)(r:(Bool×Unit×Int))(h:dF a0 a1 c0 c1 c2=some r):dD dp hp k0 k1 k2 a0 a1 c0 c1 c2 r:=by
 obtain ⟨n,hn⟩:=wa h
 exact (fp n).f_scope_Walk__scope_checker_stmts_1 dp hp k0 hk_k0 k1 hk_k1 k2 hk_k2 hn_k0_k1 hn_k0_k2 hn_k1_k2 hz a0 a1 c0 c1 c2 r hn
end
section
variable (dp:Nat)(hp:HP)(k0:Key)(c0:Checker)(a0:(List Stmt))
abbrev s9(dp:Nat)(hp:HP)(k0:Key)(c0:Checker)(a0:(List Stmt))(r:Int):aR×HP:=(.ret (I r),aj hp k0 (ad c0))
def eb:Option Int:=
 (dF a0 1 () c0 0).bind fun (r1:(Bool×Unit×Int))=>
 some r1.2.2
theorem lq(hk_k0:k0.dp<dp)(hz:aS dp hp)(c0:Checker)(a0:(List Stmt))(r:Int)(h:eb c0 a0=some r):call G Ω0 ⟨dp,false⟩ 33 [(.p k0 0),(.l 74 (a0.map aI))] (aj hp k0 (ad c0))=some (s9 dp hp k0 c0 a0 r):=
 aH TJ (iI<|.ex fun (r1:(Bool×Unit×Int))=>ao (.v (.b r1.1))<|ao (.h (boxes dp [(2,[(.p k0 0)]),(5,[(I r1.2.2)])] (aj hp k0 (ad c0))))<|ao (.bx [(2,[(.p k0 0)]),(5,[(I r1.2.2)])])<|ao (.h (aj hp k0 (ad c0)))<|bt<|.nil) fun L=>ai ((by simp [AV.aW,AV.bR,AV.deep,AV.bN,bH hk_k0,Nat.le_of_lt hk_k0]):(((.p k0 0):AV).deep dp&&(([(0,(.p k0 0)),(1,(.l 74 (a0.map aI)))]:List (Nat×AV)).all (fun y=>y.2.aW ⟨dp,2⟩)&&([]:List (Nat×List AV)).all (fun y=>AV.bR ⟨dp,2⟩ y.2)))=true)<|ai ((by simp [AV.aW,AV.bR,AV.deep,AV.bN,bH hk_k0,Nat.le_of_lt hk_k0]):(([(1,(.l 74 (a0.map aI))),(2,(.p ⟨dp,2⟩ 0))]:List (Nat×AV)).all (fun y=>y.2.aW ⟨dp,5⟩)&&([(2,[(.p k0 0)])]:List (Nat×List AV)).all (fun y=>AV.bR ⟨dp,5⟩ y.2))=true)<|ai ff<|ai (rN dp)<|ai tt<|ai (rN dp)<|ai ff<|ai ((by simp [AV.deep,AV.bN,Nat.le_of_lt hk_k0]):([(2,[(.p k0 0)]),(5,[(I 0)])]:List (Nat×List AV)).all (fun y=>AV.bN dp y.2)=true)<|cw h fun r1 ek2 h=>have ek2:call G Ω0 ⟨dp+1,false⟩ 62 [(.l 74 (a0.map aI)),(I 1),(.f 64 [(.p ⟨dp,2⟩ 0),(.p ⟨dp,5⟩ 0)])] (boxes dp [(2,[(.p k0 0)]),(5,[(I 0)])] (aj hp k0 (ad c0)))=some (.ret (.b r1.1),boxes dp [(2,[(.p k0 0)]),(5,[(I r1.2.2)])] (aj hp k0 (ad c0))):=nT (oO (oO (fJ (bx1:=[(2,[(.p k0 0)]),(5,[(I 0)])]) (by kernel_rfl) (by kernel_rfl)) (jG (hp1:=aj hp k0 (ad c0)) (Nat.ne_of_lt hk_k0) (jh ..))) (fJ (bx1:=[(2,[(.p k0 0)]),(5,[(I 0)])]) (by kernel_rfl) (by kernel_rfl))) (oO (oO (fJ (bx1:=[(2,[(.p k0 0)]),(5,[(I 0)])]) (by kernel_rfl) (by kernel_rfl)) (jG (hp1:=aj hp k0 (ad c0)) (Nat.ne_of_lt hk_k0) (jh ..))) (fJ (bx1:=[(2,[(.p k0 0)]),(5,[(I r1.2.2)])]) (by kernel_rfl) (by kernel_rfl))) (kl (dp+1) (boxes dp [(2,[(.p k0 0)]),(5,[(I 0)])] (aj hp k0 (ad c0))) ⟨dp,2⟩ (Nat.lt_succ_self dp) k0 (Nat.lt_succ_of_lt hk_k0) ⟨dp,5⟩ (Nat.lt_succ_self dp) (Eg hk_k0) (Mi (by decide)) (bH hk_k0) (dO (bc hk_k0 (hz))) a0 1 () c0 0 _ ek2);ai ek2<|ai (uJ ek2 (by kernel_rfl) (by kernel_rfl))<|ai (uK ek2 (bc hk_k0 (hz)))<|ai (rN dp)<|L h
end
section
variable (c0:Checker)(a0:Func)(dp:Nat)(hp:HP)(k0:Key)
def gj(v0_15:Nat):Option (Nat⊕(Unit⊕(Unit⊕(Nat×Bool)))):=
 if (v0_15:Int)<(a0.Params.length:Int) then
  (a0.Params[v0_15]?).bind fun (y3:Int)=>
  if y3<0 then
   some (.inr (.inl ()))
  else
   if (c0.p.Vars.length:Int)≤y3 then
    some (.inr (.inl ()))
   else
    if v0_15≤a0.Params.length then
     (fD ((a0.Params.take v0_15).drop 0) y3).bind fun (r8:Bool)=>
     if r8=true then
      some (.inr (.inr (.inl ())))
     else
      if IntKind.i64.wrap ((v0_15:Int)+1)=((v0_15+1:Nat):Int) then
       some (.inl (v0_15+1))
      else none
    else none
 else
  some (.inr (.inr (.inr (v0_15,decide ((v0_15:Int)<(a0.Params.length:Int))))))
abbrev tZ(c0:Checker)(a0:Func)(v:Nat):St:=⟨[(0,(.p k0 0)),(3,(.p ⟨dp,3⟩ 0)),(13,(.l 3 (a0.Params.map (I)))),(14,(I (a0.Params.length:Int))),(15,(I (v:Int)))],[(3,(cN a0))],aj hp k0 (ad c0)⟩
abbrev ua(c0:Checker)(a0:Func)(x:(Unit⊕(Unit⊕(Nat×Bool)))):aE×St:=match x with | .inl ()=>(.ret,⟨[(4,(I 5))],[],aj hp k0 (ad c0)⟩) | .inr (.inl ())=>(.ret,⟨[(4,(I 6))],[],aj hp k0 (ad c0)⟩) | .inr (.inr (z1,z2))=>((.ex 0),⟨[(0,(.p k0 0)),(3,(.p ⟨dp,3⟩ 0)),(13,(.l 3 (a0.Params.map (I)))),(14,(I (a0.Params.length:Int))),(15,(I (z1:Int))),(16,(.b z2))],[(3,(cN a0))],aj hp k0 (ad c0)⟩)
theorem ta(hk_k0:k0.dp<dp)(hz:aS dp hp)(c0:Checker)(a0:Func)(v0_15:Nat)(o:Nat⊕(Unit⊕(Unit⊕(Nat×Bool))))(h:gj c0 a0 v0_15=some o):bG ⟨dp,false⟩ IV (tZ dp hp k0 c0 a0) (ua dp hp k0 c0 a0) v0_15 o:=
 bO (.or (bt<|ao (.n v0_15)<|xI fun y3=>.or (bf<|bf<|bf<|bf<|bf<|bf<|bf<|bf<|bt<|bt<|.nil) (Gn<|ao (.l (ad c0))<|bt<|ao (.i (c0.p.Vars.length:Int))<|sd<|oN (bt<|ao (.n v0_15)<|ao (.l (((a0.Params.take v0_15).drop 0).map (I)))<|xB fun r8=>oN (ao (.i ((v0_15+1:Nat):Int))<|.nil)))) (bf<|.nil)) fun L=>bQ h (fun h2 h=>ai (decide_eq_true h2)<|ai (rI v0_15)<|cw h fun y3 h4 h=>ai (aZ (I) h4)<|bQ h (fun h5 h=>ai (g0 (decide_eq_true h5))<|ai (g0 (decide_eq_true h5))<|ai (g0 (decide_eq_true h5))<|ai (g0 (decide_eq_true h5))<|ai (g0 (decide_eq_true h5))<|ai (g0 (decide_eq_true h5))<|ai (g0 (decide_eq_true h5))<|ai (g0 (decide_eq_true h5))<|ai (decide_eq_true h5)<|ai tt<|L h) (fun h5 h=>ai (g0 (decide_eq_false h5))<|ai (g0 (decide_eq_false h5))<|ai (g0 (decide_eq_false h5))<|ai (g0 (decide_eq_false h5))<|ai (g0 (decide_eq_false h5))<|ai (g0 (decide_eq_false h5))<|ai (Nat.ne_of_lt hk_k0)<|ai (cY hp k0 (ad c0))<|ai (g0 (decide_eq_false h5))<|ai (ay bB c0.p.Vars)<|uL (decide_eq_false h5)<|bQ h (fun h6 h=>ai (decide_eq_true h6)<|L h) (fun h6 h=>ai (decide_eq_false h6)<|ai (rN dp)<|ai (rI v0_15)<|ai ((by decide):3≠0)<|ai ((jg (I) (n:=1) (fun _=>rfl) a0.Params):(a0.Params.map (I)).all (fun e=>e.nc==1)=true)<|ai (Nat.zero_le _:0≤v0_15)<|aV h fun h7 h=>ai ((by rw [List.length_map];exact h7):v0_15≤(a0.Params.map (I)).length)<|ai (Bs (I) a0.Params 0 v0_15)<|aJ h (qU ((a0.Params.take v0_15).drop 0) y3) fun r8 h=>bb h (fun h10 h=>ai h10<|L h) (fun h10 h=>ai h10<|aV h fun w11 h=>ai w11<|L h)))) (fun h2 h=>ai (decide_eq_false h2)<|L h)
abbrev vf(dp:Nat)(hp:HP)(k0:Key)(c0:Checker)(a0:Func)(r:Int):aR×HP:=(.ret (I r),aj hp k0 (ad c0))
def iL:Option Int:=
 if 4<(a0.Params.length:Int) then
  some 2
 else
  (lp (fun v=>gj c0 a0 v) 0).bind fun (x2:(Unit⊕(Unit⊕(Nat×Bool))))=>match x2 with
  | .inl ya_3=>
   some 5
  | .inr (.inl yb_3)=>
   some 6
  | .inr (.inr yc_3)=>
   (eb c0 a0.Body).bind fun (r5:Int)=>
   if (r5 !=0)=true then
    some r5
   else
    (gR a0.Result (c0.p.Vars.length:Int)).bind fun (r8:Int)=>
    some r8
theorem tc(hk_k0:k0.dp<dp)(hz:aS dp hp)(c0:Checker)(a0:Func)(r:Int)(h:iL c0 a0=some r):call G Ω0 ⟨dp,false⟩ 32 [(.p k0 0),(.a (cN a0))] (aj hp k0 (ad c0))=some (vf dp hp k0 c0 a0 r):=
 aH TI (bt<|ao (.i (a0.Params.length:Int))<|oN (bt<|ao (.i (a0.Params.length:Int))<|.or (.ex fun (ya_3:Unit)=>ao (.lp .ret ⟨[(4,(I 5))],[],aj hp k0 (ad c0)⟩)<|.nil) (.or (.ex fun (yb_3:Unit)=>ao (.lp .ret ⟨[(4,(I 6))],[],aj hp k0 (ad c0)⟩)<|.nil) (.ex fun (yc_3:(Nat×Bool))=>ao (.lp (.ex 0) ⟨[(0,(.p k0 0)),(3,(.p ⟨dp,3⟩ 0)),(13,(.l 3 (a0.Params.map (I)))),(14,(I (a0.Params.length:Int))),(15,(I (yc_3.1:Int))),(16,(.b yc_3.2))],[(3,(cN a0))],aj hp k0 (ad c0)⟩)<|bt<|xI fun r5=>ao (.h (boxes dp [(3,(cN a0))] (aj hp k0 (ad c0))))<|ao (.bx [(3,(cN a0))])<|ao (.h (aj hp k0 (ad c0)))<|oN (sd<|ao (.l (ad c0))<|ao (.i (c0.p.Vars.length:Int))<|xI fun r8=>.nil))))) fun L=>ai ((by simp [cN,AV.aW,AV.bR,AV.deep,AV.bN,bH hk_k0,Nat.le_of_lt hk_k0]):(((.a (cN a0)):AV).deep dp&&(([(0,(.p k0 0)),(1,(.a (cN a0)))]:List (Nat×AV)).all (fun y=>y.2.aW ⟨dp,3⟩)&&([]:List (Nat×List AV)).all (fun y=>AV.bR ⟨dp,3⟩ y.2)))=true)<|ai (rN dp)<|ai (ay (I) a0.Params)<|bQ h (fun h1 h=>ai (decide_eq_true h1)<|L h) (fun h1 h=>ai (decide_eq_false h1)<|ai (rN dp)<|ai (ay (I) a0.Params)<|Jq h (gu (ta dp hp k0 hk_k0 hz c0 a0) 0) (fun ya_3 h=>L h) (fun yb_3 h=>L h) (fun yc_3 h=>ai (rN dp)<|ai ff<|ai tt<|cw h fun r5 ek6 h=>have ek6:=cO hk_k0 (lq (dp+1) (boxes dp [(3,(cN a0))] (aj hp k0 (ad c0))) k0 (Nat.lt_succ_of_lt hk_k0) (dO (bc hk_k0 (hz))) c0 a0.Body _ ek6);ai ek6<|ai (uJ ek6 (by kernel_rfl) (by kernel_rfl))<|ai (uK ek6 (bc hk_k0 (hz)))<|bb h (fun h7 h=>ai h7<|L h) (fun h7 h=>ai h7<|ai tt<|ai tt<|ai (rN dp)<|ai tt<|ai tt<|ai tt<|ai tt<|ai tt<|ai (Nat.ne_of_lt hk_k0)<|ai (cY hp k0 (ad c0))<|ai tt<|ai (ay bB c0.p.Vars)<|ai tt<|aJ h (oq a0.Result (c0.p.Vars.length:Int)) fun r8 h=>L h)))
end
section
variable (a0:Program)
def iM(v0_22:Nat)(v0_18_8:Nat):Option ((Nat×Nat)⊕(Int⊕(Nat×Bool×Nat))):=
 if (v0_22:Int)<(a0.Funcs.length:Int) then
  (a0.Funcs[v0_22]?).bind fun (y8:Func)=>
  (iL (⟨a0,(v0_22:Int)⟩:Checker) y8).bind fun (r10:Int)=>
  if (r10 !=0)=true then
   some (.inr (.inl r10))
  else
   if IntKind.i64.wrap ((v0_22:Int)+1)=((v0_22+1:Nat):Int) then
    some (.inl (v0_22+1,v0_22))
   else none
 else
  some (.inr (.inr (v0_22,decide ((v0_22:Int)<(a0.Funcs.length:Int)),v0_18_8)))
abbrev yU(v:(Nat×Nat)):St:=⟨[(1,(.p ⟨0,1⟩ 0)),(4,(.p ⟨0,18⟩ 0)),(20,(.l 85 (a0.Funcs.map bC))),(21,(I (a0.Funcs.length:Int))),(22,(I (v.1:Int)))],[(1,(an a0)),(18,[(I a0.aa.Many),(.l 93 (a0.aa.Grants.map ax)),(.l 3 (a0.Speak.map (I))),(.l 60 (a0.Ins.map ar)),(.l 60 (a0.Outs.map ar)),(.l 67 (a0.Vars.map bB)),(.l 85 (a0.Funcs.map bC)),(.l 74 (a0.Main.map aI)),(I (v.2:Int))])],H0⟩
abbrev yV(x:(Int⊕(Nat×Bool×Nat))):aE×St:=match x with | .inl z1=>(.ret,⟨[(2,(I z1))],[],H0⟩) | .inr (z1,z2,z3)=>((.ex 0),⟨[(1,(.p ⟨0,1⟩ 0)),(4,(.p ⟨0,18⟩ 0)),(20,(.l 85 (a0.Funcs.map bC))),(21,(I (a0.Funcs.length:Int))),(22,(I (z1:Int))),(23,(.b z2))],[(1,(an a0)),(18,[(I a0.aa.Many),(.l 93 (a0.aa.Grants.map ax)),(.l 3 (a0.Speak.map (I))),(.l 60 (a0.Ins.map ar)),(.l 60 (a0.Outs.map ar)),(.l 67 (a0.Vars.map bB)),(.l 85 (a0.Funcs.map bC)),(.l 74 (a0.Main.map aI)),(I (z3:Int))])],H0⟩)
theorem xz(v0_22:Nat)(v0_18_8:Nat)(o:(Nat×Nat)⊕(Int⊕(Nat×Bool×Nat)))(h:iM a0 v0_22 v0_18_8=some o):bG E0 K0 (yU a0) (yV a0) (v0_22,v0_18_8) o:=
 bO (.or (bt<|ao (.n v0_22)<|.ex fun (y8:Func)=>ao (.v (.a (cN y8)))<|oi<|xI fun r10=>ao (.h (boxes 0 [(1,(an a0)),(6,(cN y8)),(18,[(I a0.aa.Many),(.l 93 (a0.aa.Grants.map ax)),(.l 3 (a0.Speak.map (I))),(.l 60 (a0.Ins.map ar)),(.l 60 (a0.Outs.map ar)),(.l 67 (a0.Vars.map bB)),(.l 85 (a0.Funcs.map bC)),(.l 74 (a0.Main.map aI)),(I (v0_22:Int))])] H0))<|ao (.bx [(1,(an a0)),(6,(cN y8)),(18,[(I a0.aa.Many),(.l 93 (a0.aa.Grants.map ax)),(.l 3 (a0.Speak.map (I))),(.l 60 (a0.Ins.map ar)),(.l 60 (a0.Outs.map ar)),(.l 67 (a0.Vars.map bB)),(.l 85 (a0.Funcs.map bC)),(.l 74 (a0.Main.map aI)),(I (v0_22:Int))])])<|ao (.h (H0))<|oN (ao (.i ((v0_22+1:Nat):Int))<|.nil)) (bf<|.nil)) fun L=>bQ h (fun h7 h=>ai (decide_eq_true h7)<|ai (rI v0_22)<|cw h fun y8 h9 h=>ai (aZ bC h9)<|ai tt<|ai ff<|ai (rfl:Z0)<|ai tt<|ai (rfl:Z0)<|ai ff<|ai (rfl:Z0)<|ai tt<|ai (rfl:Z0)<|ai (rfl:Z0)<|ai ff<|ai tt<|cw h fun r10 ek11 h=>have ek11:call G Ω0 ⟨0+1,false⟩ 32 [(.p ⟨0,18⟩ 0),(.a (cN y8))] (boxes 0 [(1,(an a0)),(6,(cN y8)),(18,[(I a0.aa.Many),(.l 93 (a0.aa.Grants.map ax)),(.l 3 (a0.Speak.map (I))),(.l 60 (a0.Ins.map ar)),(.l 60 (a0.Outs.map ar)),(.l 67 (a0.Vars.map bB)),(.l 85 (a0.Funcs.map bC)),(.l 74 (a0.Main.map aI)),(I (v0_22:Int))])] H0)=some (.ret (I r10),boxes 0 [(1,(an a0)),(6,(cN y8)),(18,[(I a0.aa.Many),(.l 93 (a0.aa.Grants.map ax)),(.l 3 (a0.Speak.map (I))),(.l 60 (a0.Ins.map ar)),(.l 60 (a0.Outs.map ar)),(.l 67 (a0.Vars.map bB)),(.l 85 (a0.Funcs.map bC)),(.l 74 (a0.Main.map aI)),(I (v0_22:Int))])] H0):=nT (fJ (bx1:=[(1,(an a0)),(6,(cN y8)),(18,[(I a0.aa.Many),(.l 93 (a0.aa.Grants.map ax)),(.l 3 (a0.Speak.map (I))),(.l 60 (a0.Ins.map ar)),(.l 60 (a0.Outs.map ar)),(.l 67 (a0.Vars.map bB)),(.l 85 (a0.Funcs.map bC)),(.l 74 (a0.Main.map aI)),(I (v0_22:Int))])]) (by kernel_rfl) (by kernel_rfl)) (fJ (bx1:=[(1,(an a0)),(6,(cN y8)),(18,[(I a0.aa.Many),(.l 93 (a0.aa.Grants.map ax)),(.l 3 (a0.Speak.map (I))),(.l 60 (a0.Ins.map ar)),(.l 60 (a0.Outs.map ar)),(.l 67 (a0.Vars.map bB)),(.l 85 (a0.Funcs.map bC)),(.l 74 (a0.Main.map aI)),(I (v0_22:Int))])]) (by kernel_rfl) (by kernel_rfl)) (tc (0+1) (boxes 0 [(1,(an a0)),(6,(cN y8)),(18,[(I a0.aa.Many),(.l 93 (a0.aa.Grants.map ax)),(.l 3 (a0.Speak.map (I))),(.l 60 (a0.Ins.map ar)),(.l 60 (a0.Outs.map ar)),(.l 67 (a0.Vars.map bB)),(.l 85 (a0.Funcs.map bC)),(.l 74 (a0.Main.map aI)),(I (v0_22:Int))])] H0) ⟨0,18⟩ (Nat.lt_succ_self 0) (dO (kZ 0)) (⟨a0,(v0_22:Int)⟩:Checker) y8 _ ek11);ai ek11<|ai (uJ ek11 (by kernel_rfl) (by kernel_rfl))<|ai (uK ek11 (kZ 0))<|bb h (fun h12 h=>ai h12<|L h) (fun h12 h=>ai h12<|aV h fun w13 h=>ai w13<|L h)) (fun h7 h=>ai (decide_eq_false h7)<|L h)
abbrev Bz(a0:Program)(r:Int):aR×HP:=(.ret (I r),H0)
def jU:Option Int:=
 (om a0).bind fun (r1:Int)=>
 if (r1 !=0)=true then
  some r1
 else
  (pd a0).bind fun (r4:Bool)=>
  if r4=true then
   (lp (fun v=>iM a0 v.1 v.2) (0,0)).bind fun (x7:(Int⊕(Nat×Bool×Nat)))=>match x7 with
   | .inl ya_8=>
    some ya_8
   | .inr yb_8=>
    (eb (⟨a0,(a0.Funcs.length:Int)⟩:Checker) a0.Main).bind fun (r10:Int)=>
    some r10
  else
   some 2
theorem q9(r:Int)(h:jU a0=some r):call G Ω0 E0 9 [(.a (an a0))] H0=some (Bz a0 r):=
 aH G9 (bt<|xI fun r1=>oN (bt<|xB fun r4=>.or (bf<|bt<|bt<|ao (.i (a0.Funcs.length:Int))<|.or (.ex fun (ya_8:Int)=>ao (.lp .ret ⟨[(2,(I ya_8))],[],H0⟩)<|.nil) (.ex fun (yb_8:(Nat×Bool×Nat))=>ao (.lp (.ex 0) ⟨[(1,(.p ⟨0,1⟩ 0)),(4,(.p ⟨0,18⟩ 0)),(20,(.l 85 (a0.Funcs.map bC))),(21,(I (a0.Funcs.length:Int))),(22,(I (yb_8.1:Int))),(23,(.b yb_8.2.1))],[(1,(an a0)),(18,[(I a0.aa.Many),(.l 93 (a0.aa.Grants.map ax)),(.l 3 (a0.Speak.map (I))),(.l 60 (a0.Ins.map ar)),(.l 60 (a0.Outs.map ar)),(.l 67 (a0.Vars.map bB)),(.l 85 (a0.Funcs.map bC)),(.l 74 (a0.Main.map aI)),(I (yb_8.2.2:Int))])],H0⟩)<|bt<|ao (.i (a0.Funcs.length:Int))<|fO<|xI fun r10=>ao (.h (boxes 0 [(1,(an a0)),(18,[(I a0.aa.Many),(.l 93 (a0.aa.Grants.map ax)),(.l 3 (a0.Speak.map (I))),(.l 60 (a0.Ins.map ar)),(.l 60 (a0.Outs.map ar)),(.l 67 (a0.Vars.map bB)),(.l 85 (a0.Funcs.map bC)),(.l 74 (a0.Main.map aI)),(I (a0.Funcs.length:Int))])] H0))<|ao (.bx [(1,(an a0)),(18,[(I a0.aa.Many),(.l 93 (a0.aa.Grants.map ax)),(.l 3 (a0.Speak.map (I))),(.l 60 (a0.Ins.map ar)),(.l 60 (a0.Outs.map ar)),(.l 67 (a0.Vars.map bB)),(.l 85 (a0.Funcs.map bC)),(.l 74 (a0.Main.map aI)),(I (a0.Funcs.length:Int))])])<|ao (.h (H0))<|.nil)) (bt<|.nil))) fun L=>ai tt<|ai (rfl:Z0)<|aJ h (yK a0) fun r1 h=>bb h (fun h3 h=>ai h3<|L h) (fun h3 h=>p9 h3<|aJ h (Ab a0) fun r4 h=>bb h (fun h6 h=>ai (congrArg not h6)<|ai (rfl:Z0)<|ai tt<|ai (rfl:Z0)<|ai (ay bC a0.Funcs)<|dT h (gu (fun v=>xz a0 v.1 v.2) (0,0)) (fun ya_8 h=>L h) (fun yb_8 h=>ai (rfl:Z0)<|ai (ay bC a0.Funcs)<|ai ff<|ai (rfl:Z0)<|ai tt<|ai (rfl:Z0)<|ai (rfl:Z0)<|ai ff<|ai tt<|cw h fun r10 ek11 h=>have ek11:call G Ω0 ⟨0+1,false⟩ 33 [(.p ⟨0,18⟩ 0),(.l 74 (a0.Main.map aI))] (boxes 0 [(1,(an a0)),(18,[(I a0.aa.Many),(.l 93 (a0.aa.Grants.map ax)),(.l 3 (a0.Speak.map (I))),(.l 60 (a0.Ins.map ar)),(.l 60 (a0.Outs.map ar)),(.l 67 (a0.Vars.map bB)),(.l 85 (a0.Funcs.map bC)),(.l 74 (a0.Main.map aI)),(I (a0.Funcs.length:Int))])] H0)=some (.ret (I r10),boxes 0 [(1,(an a0)),(18,[(I a0.aa.Many),(.l 93 (a0.aa.Grants.map ax)),(.l 3 (a0.Speak.map (I))),(.l 60 (a0.Ins.map ar)),(.l 60 (a0.Outs.map ar)),(.l 67 (a0.Vars.map bB)),(.l 85 (a0.Funcs.map bC)),(.l 74 (a0.Main.map aI)),(I (a0.Funcs.length:Int))])] H0):=nT (fJ (bx1:=[(1,(an a0)),(18,[(I a0.aa.Many),(.l 93 (a0.aa.Grants.map ax)),(.l 3 (a0.Speak.map (I))),(.l 60 (a0.Ins.map ar)),(.l 60 (a0.Outs.map ar)),(.l 67 (a0.Vars.map bB)),(.l 85 (a0.Funcs.map bC)),(.l 74 (a0.Main.map aI)),(I (a0.Funcs.length:Int))])]) (by kernel_rfl) (by kernel_rfl)) (fJ (bx1:=[(1,(an a0)),(18,[(I a0.aa.Many),(.l 93 (a0.aa.Grants.map ax)),(.l 3 (a0.Speak.map (I))),(.l 60 (a0.Ins.map ar)),(.l 60 (a0.Outs.map ar)),(.l 67 (a0.Vars.map bB)),(.l 85 (a0.Funcs.map bC)),(.l 74 (a0.Main.map aI)),(I (a0.Funcs.length:Int))])]) (by kernel_rfl) (by kernel_rfl)) (lq (0+1) (boxes 0 [(1,(an a0)),(18,[(I a0.aa.Many),(.l 93 (a0.aa.Grants.map ax)),(.l 3 (a0.Speak.map (I))),(.l 60 (a0.Ins.map ar)),(.l 60 (a0.Outs.map ar)),(.l 67 (a0.Vars.map bB)),(.l 85 (a0.Funcs.map bC)),(.l 74 (a0.Main.map aI)),(I (a0.Funcs.length:Int))])] H0) ⟨0,18⟩ (Nat.lt_succ_self 0) (dO (kZ 0)) (⟨a0,(a0.Funcs.length:Int)⟩:Checker) a0.Main _ ek11);ai ek11<|ai (uJ ek11 (by kernel_rfl) (by kernel_rfl))<|ai (uK ek11 (kZ 0))<|L h)) (fun h6 h=>ai (congrArg not h6)<|L h))
end
section
variable (a0:(List Bool))(a1:(List Bool))
def iy(v0_5:(List Bool))(v0_10:Nat):Option (((List Bool)×Nat)⊕((List Bool)×Nat×Bool)):=
 if (v0_10:Int)<(a0.length:Int) then
  (a0[v0_10]?).bind fun (y2:Bool)=>
  if y2=true then
   (a1[v0_10]?).bind fun (y5:Bool)=>
   if v0_5.length + [y5].length≤1000000000 then
    if IntKind.i64.wrap ((v0_10:Int)+1)=((v0_10+1:Nat):Int) then
     some (.inl (v0_5++[y5],v0_10+1))
    else none
   else none
  else
   if v0_5.length + [false].length≤1000000000 then
    if IntKind.i64.wrap ((v0_10:Int)+1)=((v0_10+1:Nat):Int) then
     some (.inl (v0_5++[false],v0_10+1))
    else none
   else none
 else
  some (.inr (v0_5,v0_10,decide ((v0_10:Int)<(a0.length:Int))))
abbrev BA(v:((List Bool)×Nat)):St:=⟨[(1,(.l 4 (a1.map AV.b))),(5,(.o 4 (v.1.map AV.b))),(8,(.l 4 (a0.map AV.b))),(9,(I (a0.length:Int))),(10,(I (v.2:Int)))],[],H0⟩
abbrev BB(x:((List Bool)×Nat×Bool)):aE×St:=((.ex 0),⟨[(1,(.l 4 (a1.map AV.b))),(5,(.o 4 (x.1.map AV.b))),(8,(.l 4 (a0.map AV.b))),(9,(I (a0.length:Int))),(10,(I (x.2.1:Int))),(11,(.b x.2.2))],[],H0⟩)
theorem Ae(v0_5:(List Bool))(v0_10:Nat)(o:((List Bool)×Nat)⊕((List Bool)×Nat×Bool))(h:iy a0 a1 v0_5 v0_10=some o):bG E0 I0 (BA a0 a1) (BB a0 a1) (v0_5,v0_10) o:=
 bO (.or (bt<|ao (.n v0_10)<|xB fun y2=>.or (fO<|ao (.n v0_10)<|xB fun y5=>iI<|ao (.l ([y5].map AV.b))<|ao (.l ((v0_5++[y5]).map AV.b))<|ao (.i ((v0_10+1:Nat):Int))<|.nil) (bf<|bf<|bf<|bf<|bf<|ao (.l ([false].map AV.b))<|ao (.l ((v0_5++[false]).map AV.b))<|ao (.i ((v0_10+1:Nat):Int))<|.nil)) (bf<|.nil)) fun L=>bQ h (fun h1 h=>ai (decide_eq_true h1)<|ai (rI v0_10)<|cw h fun y2 h3 h=>ai (aZ AV.b h3)<|bb h (fun h4 h=>zL h4<|ai (rI v0_10)<|cw h fun y5 h6 h=>ai (aZ AV.b h6)<|Ei h4<|ai (rfl:[(.b y5)]=[y5].map AV.b)<|ai ff<|aV h fun h7 h=>ai ((jg AV.b (n:=1) (fun _=>rfl) [y5]):([y5].map AV.b).all (fun e=>e.nc==1)=true)<|ai ((np h7 (by decide)):((v0_5.map AV.b).length+([y5].map AV.b).length)*1≤140737488355328)<|ai ((nq h7):(v0_5.map AV.b).length+([y5].map AV.b).length≤maxLen)<|ai (List.map_append.symm:v0_5.map AV.b++[y5].map AV.b=(v0_5++[y5]).map AV.b)<|aV h fun w8 h=>ai w8<|L h) (fun h4 h=>ai (g1 h4)<|ai (g1 h4)<|ai (g1 h4)<|ai (g1 h4)<|ai h4<|ai (rfl:[(.b false)]=[false].map AV.b)<|ai ff<|aV h fun h5 h=>ai ((jg AV.b (n:=1) (fun _=>rfl) [false]):([false].map AV.b).all (fun e=>e.nc==1)=true)<|ai ((np h5 (by decide)):((v0_5.map AV.b).length+([false].map AV.b).length)*1≤140737488355328)<|ai ((nq h5):(v0_5.map AV.b).length+([false].map AV.b).length≤maxLen)<|ai (List.map_append.symm:v0_5.map AV.b++[false].map AV.b=(v0_5++[false]).map AV.b)<|aV h fun w6 h=>ai w6<|L h)) (fun h1 h=>ai (decide_eq_false h1)<|L h)
abbrev DU(a0:(List Bool))(a1:(List Bool))(r:(List Bool)):aR×HP:=(.ret (.l 4 (r.map AV.b)),H0)
def pf:Option (List Bool):=
 (lp (fun v=>iy a0 a1 v.1 v.2) (([]:List Bool),0)).bind fun (x1:((List Bool)×Nat×Bool))=>
 some x1.1
theorem Af(r:(List Bool))(h:pf a0 a1=some r):call G Ω0 E0 40 [(.l 4 (a0.map AV.b)),(.l 4 (a1.map AV.b))] H0=some (DU a0 a1 r):=
 aH TQ (ao (.i (a0.length:Int))<|.ex fun (x1:((List Bool)×Nat×Bool))=>ao (.lp (.ex 0) ⟨[(1,(.l 4 (a1.map AV.b))),(5,(.o 4 (x1.1.map AV.b))),(8,(.l 4 (a0.map AV.b))),(9,(I (a0.length:Int))),(10,(I (x1.2.1:Int))),(11,(.b x1.2.2))],[],H0⟩)<|.nil) fun L=>ai (ay AV.b a0)<|aJ h (gu (fun v=>Ae a0 a1 v.1 v.2) (([]:List Bool),0)) fun x1 h=>L h
def jt(v0_5:(List Bool))(v0_10:Nat):Option (((List Bool)×Nat)⊕((List Bool)×Nat×Bool)):=
 if (v0_10:Int)<(a0.length:Int) then
  (a0[v0_10]?).bind fun (y2:Bool)=>
  if y2=true then
   if v0_5.length + [true].length≤1000000000 then
    if IntKind.i64.wrap ((v0_10:Int)+1)=((v0_10+1:Nat):Int) then
     some (.inl (v0_5++[true],v0_10+1))
    else none
   else none
  else
   (a1[v0_10]?).bind fun (y5:Bool)=>
   if v0_5.length + [y5].length≤1000000000 then
    if IntKind.i64.wrap ((v0_10:Int)+1)=((v0_10+1:Nat):Int) then
     some (.inl (v0_5++[y5],v0_10+1))
    else none
   else none
 else
  some (.inr (v0_5,v0_10,decide ((v0_10:Int)<(a0.length:Int))))
abbrev Cy(v:((List Bool)×Nat)):St:=⟨[(1,(.l 4 (a1.map AV.b))),(5,(.o 4 (v.1.map AV.b))),(8,(.l 4 (a0.map AV.b))),(9,(I (a0.length:Int))),(10,(I (v.2:Int)))],[],H0⟩
abbrev Cz(x:((List Bool)×Nat×Bool)):aE×St:=((.ex 0),⟨[(1,(.l 4 (a1.map AV.b))),(5,(.o 4 (x.1.map AV.b))),(8,(.l 4 (a0.map AV.b))),(9,(I (a0.length:Int))),(10,(I (x.2.1:Int))),(11,(.b x.2.2))],[],H0⟩)
theorem BC(v0_5:(List Bool))(v0_10:Nat)(o:((List Bool)×Nat)⊕((List Bool)×Nat×Bool))(h:jt a0 a1 v0_5 v0_10=some o):bG E0 IZ (Cy a0 a1) (Cz a0 a1) (v0_5,v0_10) o:=
 bO (.or (bt<|ao (.n v0_10)<|xB fun y2=>.or (yz<|ao (.l ([true].map AV.b))<|ao (.l ((v0_5++[true]).map AV.b))<|ao (.i ((v0_10+1:Nat):Int))<|.nil) (fO<|ao (.n v0_10)<|xB fun y5=>sd<|ao (.l ([y5].map AV.b))<|ao (.l ((v0_5++[y5]).map AV.b))<|ao (.i ((v0_10+1:Nat):Int))<|.nil)) (bf<|.nil)) fun L=>bQ h (fun h1 h=>ai (decide_eq_true h1)<|ai (rI v0_10)<|cw h fun y2 h3 h=>ai (aZ AV.b h3)<|bb h (fun h4 h=>yw h4<|ai (rfl:[(.b true)]=[true].map AV.b)<|ai ff<|aV h fun h5 h=>ai ((jg AV.b (n:=1) (fun _=>rfl) [true]):([true].map AV.b).all (fun e=>e.nc==1)=true)<|ai ((np h5 (by decide)):((v0_5.map AV.b).length+([true].map AV.b).length)*1≤140737488355328)<|ai ((nq h5):(v0_5.map AV.b).length+([true].map AV.b).length≤maxLen)<|ai (List.map_append.symm:v0_5.map AV.b++[true].map AV.b=(v0_5++[true]).map AV.b)<|aV h fun w6 h=>ai w6<|L h) (fun h4 h=>yx h4<|ai (rI v0_10)<|cw h fun y5 h6 h=>ai (aZ AV.b h6)<|uL h4<|ai (rfl:[(.b y5)]=[y5].map AV.b)<|ai ff<|aV h fun h7 h=>ai ((jg AV.b (n:=1) (fun _=>rfl) [y5]):([y5].map AV.b).all (fun e=>e.nc==1)=true)<|ai ((np h7 (by decide)):((v0_5.map AV.b).length+([y5].map AV.b).length)*1≤140737488355328)<|ai ((nq h7):(v0_5.map AV.b).length+([y5].map AV.b).length≤maxLen)<|ai (List.map_append.symm:v0_5.map AV.b++[y5].map AV.b=(v0_5++[y5]).map AV.b)<|aV h fun w8 h=>ai w8<|L h)) (fun h1 h=>ai (decide_eq_false h1)<|L h)
abbrev FD(a0:(List Bool))(a1:(List Bool))(r:(List Bool)):aR×HP:=(.ret (.l 4 (r.map AV.b)),H0)
def qo:Option (List Bool):=
 (lp (fun v=>jt a0 a1 v.1 v.2) (([]:List Bool),0)).bind fun (x1:((List Bool)×Nat×Bool))=>
 some x1.1
theorem BD(r:(List Bool))(h:qo a0 a1=some r):call G Ω0 E0 39 [(.l 4 (a0.map AV.b)),(.l 4 (a1.map AV.b))] H0=some (FD a0 a1 r):=
 aH TP (ao (.i (a0.length:Int))<|.ex fun (x1:((List Bool)×Nat×Bool))=>ao (.lp (.ex 0) ⟨[(1,(.l 4 (a1.map AV.b))),(5,(.o 4 (x1.1.map AV.b))),(8,(.l 4 (a0.map AV.b))),(9,(I (a0.length:Int))),(10,(I (x1.2.1:Int))),(11,(.b x1.2.2))],[],H0⟩)<|.nil) fun L=>ai (ay AV.b a0)<|aJ h (gu (fun v=>BC a0 a1 v.1 v.2) (([]:List Bool),0)) fun x1 h=>L h
end
section
variable (a0:Level)(a1:Level)
abbrev CB(a0:Level)(a1:Level)(r:Level):aR×HP:=(.ret (.a [(.l 4 (r.Readers.map AV.b)),(.l 4 (r.Writers.map AV.b))]),H0)
def cE:Option Level:=
 (pf a0.Readers a1.Readers).bind fun (r1:(List Bool))=>
 (qo a0.Writers a1.Writers).bind fun (r3:(List Bool))=>
 some (⟨r1,r3⟩:Level)
theorem iN(r:Level)(h:cE a0 a1=some r):call G Ω0 E0 36 [(.a [(.l 4 (a0.Readers.map AV.b)),(.l 4 (a0.Writers.map AV.b))]),(.a [(.l 4 (a1.Readers.map AV.b)),(.l 4 (a1.Writers.map AV.b))])] H0=some (CB a0 a1 r):=
 aH TM (iI<|.ex fun (r1:(List Bool))=>ao (.v (.l 4 (r1.map AV.b)))<|iI<|.ex fun (r3:(List Bool))=>ao (.v (.l 4 (r3.map AV.b)))<|iI<|.nil) fun L=>ai tt<|ai tt<|ai tt<|ai tt<|ai tt<|ai (rfl:Z0)<|ai tt<|ai tt<|ai (rfl:Z0)<|ai tt<|aJ h (Af a0.Readers a1.Readers) fun r1 h=>ai tt<|ai tt<|ai (rfl:Z0)<|ai tt<|ai tt<|ai (rfl:Z0)<|ai tt<|aJ h (BD a0.Writers a1.Writers) fun r3 h=>ai ff<|ai (rfl:Z0)<|ai tt<|ai (rfl:Z0)<|ai (rfl:Z0)<|L h
end
section
variable (a0:aa)
abbrev Ag(a0:aa)(r:Level):aR×HP:=(.ret (.a [(.l 4 (r.Readers.map AV.b)),(.l 4 (r.Writers.map AV.b))]),H0)
def ec:Option Level:=
 (Fy true a0.Many).bind fun (r1:(List Bool))=>
 (fY a0.Many).bind fun (j3:Nat)=>
 if j3≤1000000000 then
  some (⟨r1,List.replicate j3 false⟩:Level)
 else none
theorem jc(r:Level)(h:ec a0=some r):call G Ω0 E0 34 [(.a [(I a0.Many),(.l 93 (a0.Grants.map ax))])] H0=some (Ag a0 r):=
 aH TK (ao (.l ([true].map AV.b))<|bt<|.ex fun (r1:(List Bool))=>ao (.v (.l 4 (r1.map AV.b)))<|bt<|xN fun j3=>ao (.l ((List.replicate j3 false).map AV.b))<|iI<|.nil) fun L=>ai tt<|ai tt<|ai tt<|ai (rfl:[(.b true)]=[true].map AV.b)<|zM<|cw h fun r1 ek2 h=>have ek2:Ω0 66 [(.l 4 ([true].map AV.b)),(I a0.Many)]=some (.l 4 (r1.map AV.b)):=J1 ek2;ai ek2<|zM<|sI h fun j3 h4 h=>ai h4<|aV h fun h5 h=>ai ((Fu h5 (by decide)):j3*1≤140737488355328)<|ai ((Fv h5):j3≤maxLen)<|ai ((List.map_replicate ..).symm:List.replicate j3 (.b false)=(List.replicate j3 false).map AV.b)<|Gm<|L h
end
section
variable (a0:(List Bool))(a1:(List Bool))
def fL(v0_9:Nat):Option (Nat⊕(Unit⊕(Nat×Bool))):=
 if (v0_9:Int)<(a0.length:Int) then
  (a0[v0_9]?).bind fun (y2:Bool)=>
  if y2=true then
   (a1[v0_9]?).bind fun (y5:Bool)=>
   if y5=true then
    if IntKind.i64.wrap ((v0_9:Int)+1)=((v0_9+1:Nat):Int) then
     some (.inl (v0_9+1))
    else none
   else
    some (.inr (.inl ()))
  else
   if IntKind.i64.wrap ((v0_9:Int)+1)=((v0_9+1:Nat):Int) then
    some (.inl (v0_9+1))
   else none
 else
  some (.inr (.inr (v0_9,decide ((v0_9:Int)<(a0.length:Int)))))
abbrev BE(v:Nat):St:=⟨[(1,(.l 4 (a1.map AV.b))),(7,(.l 4 (a0.map AV.b))),(8,(I (a0.length:Int))),(9,(I (v:Int)))],[],H0⟩
abbrev BF(x:(Unit⊕(Nat×Bool))):aE×St:=match x with | .inl ()=>(.ret,⟨[(4,(.b false))],[],H0⟩) | .inr (z1,z2)=>((.ex 0),⟨[(1,(.l 4 (a1.map AV.b))),(7,(.l 4 (a0.map AV.b))),(8,(I (a0.length:Int))),(9,(I (z1:Int))),(10,(.b z2))],[],H0⟩)
theorem Ah(v0_9:Nat)(o:Nat⊕(Unit⊕(Nat×Bool)))(h:fL a0 a1 v0_9=some o):bG E0 I8 (BE a0 a1) (BF a0 a1) v0_9 o:=
 bO (.or (bt<|ao (.n v0_9)<|xB fun y2=>.or (fO<|ao (.n v0_9)<|xB fun y5=>fO<|.or (bf<|ao (.i ((v0_9+1:Nat):Int))<|.nil) (bt<|.nil)) (HI<|ao (.i ((v0_9+1:Nat):Int))<|.nil)) (bf<|.nil)) fun L=>bQ h (fun h1 h=>ai (decide_eq_true h1)<|ai (rI v0_9)<|cw h fun y2 h3 h=>ai (aZ AV.b h3)<|bb h (fun h4 h=>zL h4<|ai (rI v0_9)<|cw h fun y5 h6 h=>ai (aZ AV.b h6)<|pz h4<|bb h (fun h7 h=>ai (congrArg not h7)<|aV h fun w8 h=>ai w8<|L h) (fun h7 h=>ai (congrArg not h7)<|L h)) (fun h4 h=>ai (g1 h4)<|ai (g1 h4)<|ai (g1 h4)<|ai (g1 h4)<|ai (g1 h4)<|ai h4<|ai ff<|aV h fun w5 h=>ai w5<|L h)) (fun h1 h=>ai (decide_eq_false h1)<|L h)
abbrev DV(a0:(List Bool))(a1:(List Bool))(r:Bool):aR×HP:=(.ret (.b r),H0)
def mY:Option Bool:=
 (lp (fun v=>fL a0 a1 v) 0).bind fun (x1:(Unit⊕(Nat×Bool)))=>match x1 with
 | .inl ya_2=>
  some false
 | .inr yb_2=>
  some true
theorem td(r:Bool)(h:mY a0 a1=some r):call G Ω0 E0 53 [(.l 4 (a0.map AV.b)),(.l 4 (a1.map AV.b))] H0=some (DV a0 a1 r):=
 aH T6 (ao (.i (a0.length:Int))<|.or (.ex fun (ya_2:Unit)=>ao (.lp .ret ⟨[(4,(.b false))],[],H0⟩)<|.nil) (.ex fun (yb_2:(Nat×Bool))=>ao (.lp (.ex 0) ⟨[(1,(.l 4 (a1.map AV.b))),(7,(.l 4 (a0.map AV.b))),(8,(I (a0.length:Int))),(9,(I (yb_2.1:Int))),(10,(.b yb_2.2))],[],H0⟩)<|.nil)) fun L=>ai (ay AV.b a0)<|dT h (gu (Ah a0 a1) 0) (fun ya_2 h=>L h) (fun yb_2 h=>L h)
end
section
variable (a0:Level)(a1:Level)
abbrev BG(a0:Level)(a1:Level)(r:Bool):aR×HP:=(.ret (.b r),H0)
def cT:Option Bool:=
 (mY a1.Readers a0.Readers).bind fun (r1:Bool)=>
 if r1=true then
  (mY a0.Writers a1.Writers).bind fun (r4:Bool)=>
  some r4
 else
  some false
theorem eX(r:Bool)(h:cT a0 a1=some r):call G Ω0 E0 27 [(.a [(.l 4 (a0.Readers.map AV.b)),(.l 4 (a0.Writers.map AV.b))]),(.a [(.l 4 (a1.Readers.map AV.b)),(.l 4 (a1.Writers.map AV.b))])] H0=some (BG a0 a1 r):=
 aH TD (iI<|xB fun r1=>.or (bt<|bt<|bt<|bt<|bt<|bt<|bt<|xB fun r4=>bt<|.nil) (Ju<|.nil)) fun L=>ai tt<|ai tt<|ai (rfl:Z0)<|ai (rfl:Z0)<|aJ h (td a1.Readers a0.Readers) fun r1 h=>bb h (fun h3 h=>ai (g1 h3)<|ai (g1 h3)<|ai (rfl:Z0)<|ai (g1 h3)<|ai (g1 h3)<|ai (rfl:Z0)<|ai (g1 h3)<|aJ h (td a0.Writers a1.Writers) fun r4 h=>ai h3<|L h) (fun h3 h=>HF h3<|L h)
end
section
variable (a0:aa)
def gC(v0_3:(List (List Bool)))(v0_12:Nat)(v1_5:(List Bool))(y9:Int)(j12:Nat)(v2_6:(List Int))(v2_44:Nat):Option (((List Int)×Nat)⊕((List Int)×Nat×Bool)):=
 if (v2_44:Int)<(a0.Grants.length:Int) then
  (a0.Grants[v2_44]?).bind fun (y18:bu)=>
  if (y18.Who==y9)=true then
   if v2_6.length + [y18.For].length≤1000000000 then
    if IntKind.i64.wrap ((v2_44:Int)+1)=((v2_44+1:Nat):Int) then
     some (.inl (v2_6++[y18.For],v2_44+1))
    else none
   else none
  else
   if IntKind.i64.wrap ((v2_44:Int)+1)=((v2_44+1:Nat):Int) then
    some (.inl (v2_6,v2_44+1))
   else none
 else
  some (.inr (v2_6,v2_44,decide ((v2_44:Int)<(a0.Grants.length:Int))))
abbrev Ai(v0_3:(List (List Bool)))(v0_12:Nat)(v1_5:(List Bool))(y9:Int)(j12:Nat)(v:((List Int)×Nat)):St:=⟨[(1,(.p ⟨0,1⟩ 0)),(3,(.o 42 (v0_3.map (bM 4 AV.b)))),(5,(.o 4 ((v1_5.set j12 true).map AV.b))),(6,(.o 3 (v.1.map (I)))),(7,(I y9)),(11,(I a0.Many)),(12,(I (v0_12:Int))),(29,.u),(42,(.l 93 (a0.Grants.map ax))),(43,(I (a0.Grants.length:Int))),(44,(I (v.2:Int)))],[(1,[(I a0.Many),(.l 93 (a0.Grants.map ax))])],H0⟩
abbrev Aj(v0_3:(List (List Bool)))(v0_12:Nat)(v1_5:(List Bool))(y9:Int)(j12:Nat)(x:((List Int)×Nat×Bool)):aE×St:=((.ex 4),⟨[(1,(.p ⟨0,1⟩ 0)),(3,(.o 42 (v0_3.map (bM 4 AV.b)))),(5,(.o 4 ((v1_5.set j12 true).map AV.b))),(6,(.o 3 (x.1.map (I)))),(7,(I y9)),(11,(I a0.Many)),(12,(I (v0_12:Int))),(29,.u),(42,(.l 93 (a0.Grants.map ax))),(43,(I (a0.Grants.length:Int))),(44,(I (x.2.1:Int))),(45,(.b x.2.2))],[(1,[(I a0.Many),(.l 93 (a0.Grants.map ax))])],H0⟩)
theorem yW(v0_3:(List (List Bool)))(v0_12:Nat)(v1_5:(List Bool))(y9:Int)(j12:Nat)(v2_6:(List Int))(v2_44:Nat)(o:((List Int)×Nat)⊕((List Int)×Nat×Bool))(h:gC a0 v0_3 v0_12 v1_5 y9 j12 v2_6 v2_44=some o):bG E0 I3 (Ai a0 v0_3 v0_12 v1_5 y9 j12) (Aj a0 v0_3 v0_12 v1_5 y9 j12) (v2_6,v2_44) o:=
 bO (.or (bt<|ao (.n v2_44)<|.ex fun (y18:bu)=>ao (.v (.a [(I y18.Who),(I y18.For)]))<|fO<|.or (iI<|ao (.l ([y18.For].map (I)))<|ao (.l ((v2_6++[y18.For]).map (I)))<|ao (.i ((v2_44+1:Nat):Int))<|.nil) (bf<|ao (.i ((v2_44+1:Nat):Int))<|.nil)) (bf<|.nil)) fun L=>bQ h (fun h17 h=>ai (decide_eq_true h17)<|ai (rI v2_44)<|cw h fun y18 h19 h=>ai (aZ ax h19)<|Gm<|bb h (fun h20 h=>p9 h20<|ai (rfl:[(I y18.For)]=[y18.For].map (I))<|ai ff<|aV h fun h21 h=>ai ((jg (I) (n:=1) (fun _=>rfl) [y18.For]):([y18.For].map (I)).all (fun e=>e.nc==1)=true)<|ai ((np h21 (by decide)):((v2_6.map (I)).length+([y18.For].map (I)).length)*8≤140737488355328)<|ai ((nq h21):(v2_6.map (I)).length+([y18.For].map (I)).length≤maxLen)<|ai (List.map_append.symm:v2_6.map (I)++[y18.For].map (I)=(v2_6++[y18.For]).map (I))<|aV h fun w22 h=>ai w22<|L h) (fun h20 h=>ai h20<|aV h fun w21 h=>ai w21<|L h)) (fun h17 h=>ai (decide_eq_false h17)<|L h)
def eY(v0_3:(List (List Bool)))(v0_12:Nat)(v1_6:(List Int))(v1_5:(List Bool)):Option (((List Int)×(List Bool))⊕((List Bool)×(List Int)×Bool)):=
 if 0<(v1_6.length:Int) then
  if IntKind.i64.wrap ((v1_6.length:Int) - 1)=(v1_6.length:Int) - 1 then
   (fY ((v1_6.length:Int) - 1)).bind fun (j7:Nat)=>
   (v1_6[j7]?).bind fun (y9:Int)=>
   if j7≤v1_6.length then
    (fY y9).bind fun (j12:Nat)=>
    (v1_5[j12]?).bind fun (y14:Bool)=>
    if y14=true then
     some (.inl (v1_6.take j7,v1_5))
    else
     (lp (fun v=>gC a0 v0_3 v0_12 v1_5 y9 j12 v.1 v.2) ((v1_6.take j7),0)).bind fun (x17:((List Int)×Nat×Bool))=>
     some (.inl (x17.1,v1_5.set j12 true))
   else none
  else none
 else
  some (.inr (v1_5,v1_6,decide (0<(v1_6.length:Int))))
abbrev Ak(v0_3:(List (List Bool)))(v0_12:Nat)(v:((List Int)×(List Bool))):St:=⟨[(1,(.p ⟨0,1⟩ 0)),(3,(.o 42 (v0_3.map (bM 4 AV.b)))),(5,(.o 4 (v.2.map AV.b))),(6,(.o 3 (v.1.map (I)))),(11,(I a0.Many)),(12,(I (v0_12:Int))),(29,.u)],[(1,[(I a0.Many),(.l 93 (a0.Grants.map ax))])],H0⟩
abbrev Al(v0_3:(List (List Bool)))(v0_12:Nat)(x:((List Bool)×(List Int)×Bool)):aE×St:=((.ex 2),⟨[(1,(.p ⟨0,1⟩ 0)),(3,(.o 42 (v0_3.map (bM 4 AV.b)))),(5,(.o 4 (x.1.map AV.b))),(6,(.o 3 (x.2.1.map (I)))),(11,(I a0.Many)),(12,(I (v0_12:Int))),(22,(.b x.2.2)),(29,.u)],[(1,[(I a0.Many),(.l 93 (a0.Grants.map ax))])],H0⟩)
theorem yX(v0_3:(List (List Bool)))(v0_12:Nat)(v1_6:(List Int))(v1_5:(List Bool))(o:((List Int)×(List Bool))⊕((List Bool)×(List Int)×Bool))(h:eY a0 v0_3 v0_12 v1_6 v1_5=some o):bG E0 I4 (Ak a0 v0_3 v0_12) (Al a0 v0_3 v0_12) (v1_6,v1_5) o:=
 bO (ao (.i (v1_6.length:Int))<|.or (bt<|ao (.i (v1_6.length:Int))<|ao (.i ((v1_6.length:Int) - 1))<|xN fun j7=>xI fun y9=>ao (.v (I y9))<|ao (.i (v1_6.length:Int))<|ao (.i ((v1_6.length:Int) - 1))<|ao (.n j7)<|ao (.n j7)<|bt<|ao (.l ((v1_6.take j7).map (I)))<|xN fun j12=>xB fun y14=>ao (.v (.b y14))<|oN (ao (.n j12)<|ao (.v (.b y14))<|ao (.v (.b y14))<|ao (.l ((v1_5.set j12 true).map AV.b))<|bt<|ao (.i (a0.Grants.length:Int))<|.ex fun (x17:((List Int)×Nat×Bool))=>ao (.lp (.ex 4) ⟨[(1,(.p ⟨0,1⟩ 0)),(3,(.o 42 (v0_3.map (bM 4 AV.b)))),(5,(.o 4 ((v1_5.set j12 true).map AV.b))),(6,(.o 3 (x17.1.map (I)))),(7,(I y9)),(11,(I a0.Many)),(12,(I (v0_12:Int))),(29,.u),(42,(.l 93 (a0.Grants.map ax))),(43,(I (a0.Grants.length:Int))),(44,(I (x17.2.1:Int))),(45,(.b x17.2.2))],[(1,[(I a0.Many),(.l 93 (a0.Grants.map ax))])],H0⟩)<|.nil)) (bf<|.nil)) fun L=>ai (ay (I) v1_6)<|bQ h (fun h5 h=>ai (decide_eq_true h5)<|ai (ay (I) v1_6)<|aV h fun w6 h=>ai w6<|sI h fun j7 h8 h=>ai h8<|cw h fun y9 h10 h=>ai (aZ (I) h10)<|ai (aZ (I) h10)<|ai (ay (I) v1_6)<|ai w6<|ai h8<|ai (Nat.zero_le _:0≤j7)<|aV h fun h11 h=>ai ((by rw [List.length_map];exact h11):j7≤(v1_6.map (I)).length)<|ai ((by simp):j7 - 0=j7)<|ai (rfl:((.s 6):Pl)=(.s 6))<|ai ((by rw [List.length_map];exact h11):j7≤(v1_6.map (I)).length)<|ai (map_take (I) v1_6 j7)<|sI h fun j12 h13 h=>ai h13<|cw h fun y14 h15 h=>ai (aZ AV.b h15)<|ai (aZ AV.b h15)<|bb h (fun h16 h=>ai h16<|L h) (fun h16 h=>ai h16<|ai h13<|ai (aZ AV.b h15)<|ai ff<|ai (aZ AV.b h15)<|ai (map_set .. : (v1_5.map AV.b).set j12 (.b true)=(v1_5.set j12 true).map AV.b)<|ai (rfl:Z0)<|ai (ay ax a0.Grants)<|aJ h (gu (fun v=>yW a0 v0_3 v0_12 v1_5 y9 j12 v.1 v.2) ((v1_6.take j7),0)) fun x17 h=>L h)) (fun h5 h=>ai (decide_eq_false h5)<|L h)
def gD(v0_3:(List (List Bool)))(v0_12:Nat):Option (((List (List Bool))×Nat)⊕((List (List Bool))×Nat×Bool)):=
 if (v0_12:Int)<a0.Many then
  (fY a0.Many).bind fun (j2:Nat)=>
  if j2≤1000000000 then
   (lp (fun v=>eY a0 v0_3 v0_12 v.1 v.2) (([(v0_12:Int)]),(List.replicate j2 false))).bind fun (x5:((List Bool)×(List Int)×Bool))=>
   if v0_3.length + [x5.1].length≤1000000000 then
    if IntKind.i64.wrap ((v0_12:Int)+1)=((v0_12+1:Nat):Int) then
     some (.inl (v0_3++[x5.1],v0_12+1))
    else none
   else none
  else none
 else
  some (.inr (v0_3,v0_12,decide ((v0_12:Int)<a0.Many)))
abbrev Am(v:((List (List Bool))×Nat)):St:=⟨[(1,(.p ⟨0,1⟩ 0)),(3,(.o 42 (v.1.map (bM 4 AV.b)))),(11,(I a0.Many)),(12,(I (v.2:Int)))],[(1,[(I a0.Many),(.l 93 (a0.Grants.map ax))])],H0⟩
abbrev An(x:((List (List Bool))×Nat×Bool)):aE×St:=((.ex 0),⟨[(1,(.p ⟨0,1⟩ 0)),(3,(.o 42 (x.1.map (bM 4 AV.b)))),(11,(I a0.Many)),(12,(I (x.2.1:Int))),(13,(.b x.2.2))],[(1,[(I a0.Many),(.l 93 (a0.Grants.map ax))])],H0⟩)
theorem yY(v0_3:(List (List Bool)))(v0_12:Nat)(o:((List (List Bool))×Nat)⊕((List (List Bool))×Nat×Bool))(h:gD a0 v0_3 v0_12=some o):bG E0 I5 (Am a0) (An a0) (v0_3,v0_12) o:=
 bO (.or (iI<|xN fun j2=>ao (.l ((List.replicate j2 false).map AV.b))<|ao (.l (([(v0_12:Int)]).map (I)))<|.ex fun (x5:((List Bool)×(List Int)×Bool))=>ao (.lp (.ex 2) ⟨[(1,(.p ⟨0,1⟩ 0)),(3,(.o 42 (v0_3.map (bM 4 AV.b)))),(5,(.o 4 (x5.1.map AV.b))),(6,(.o 3 (x5.2.1.map (I)))),(11,(I a0.Many)),(12,(I (v0_12:Int))),(22,(.b x5.2.2)),(29,.u)],[(1,[(I a0.Many),(.l 93 (a0.Grants.map ax))])],H0⟩)<|ao (.l ([x5.1].map (bM 4 AV.b)))<|ao (.l ((v0_3++[x5.1]).map (bM 4 AV.b)))<|ao (.i ((v0_12+1:Nat):Int))<|.nil) (bf<|.nil)) fun L=>bQ h (fun h1 h=>p9 (decide_eq_true h1)<|sI h fun j2 h3 h=>ai h3<|aV h fun h4 h=>ai ((Fu h4 (by decide)):j2*1≤140737488355328)<|ai ((Fv h4):j2≤maxLen)<|ai ((List.map_replicate ..).symm:List.replicate j2 (.b false)=(List.replicate j2 false).map AV.b)<|ai (rfl:[(I (v0_12:Int))]=([(v0_12:Int)]).map (I))<|aJ h (gu (fun v=>yX a0 v0_3 v0_12 v.1 v.2) (([(v0_12:Int)]),(List.replicate j2 false))) fun x5 h=>ai (rfl:[(.l 4 (x5.1.map AV.b))]=[x5.1].map (bM 4 AV.b))<|ai ff<|aV h fun h7 h=>ai ((jg (bM 4 AV.b) (n:=1) (fun _=>rfl) [x5.1]):([x5.1].map (bM 4 AV.b)).all (fun e=>e.nc==1)=true)<|ai ((np h7 (by decide)):((v0_3.map (bM 4 AV.b)).length+([x5.1].map (bM 4 AV.b)).length)*24≤140737488355328)<|ai ((nq h7):(v0_3.map (bM 4 AV.b)).length+([x5.1].map (bM 4 AV.b)).length≤maxLen)<|ai (List.map_append.symm:v0_3.map (bM 4 AV.b)++[x5.1].map (bM 4 AV.b)=(v0_3++[x5.1]).map (bM 4 AV.b))<|aV h fun w8 h=>ai w8<|L h) (fun h1 h=>ai (decide_eq_false h1)<|L h)
abbrev CC(a0:aa)(r:(List (List Bool))):aR×HP:=(.ret (.l 42 (r.map (bM 4 AV.b))),H0)
def ot:Option (List (List Bool)):=
 (lp (fun v=>gD a0 v.1 v.2) (([]:List (List Bool)),0)).bind fun (x1:((List (List Bool))×Nat×Bool))=>
 some x1.1
theorem yZ(r:(List (List Bool)))(h:ot a0=some r):call G Ω0 E0 46 [(.a [(I a0.Many),(.l 93 (a0.Grants.map ax))])] H0=some (CC a0 r):=
 aH TV (bt<|.ex fun (x1:((List (List Bool))×Nat×Bool))=>ao (.lp (.ex 0) ⟨[(1,(.p ⟨0,1⟩ 0)),(3,(.o 42 (x1.1.map (bM 4 AV.b)))),(11,(I a0.Many)),(12,(I (x1.2.1:Int))),(13,(.b x1.2.2))],[(1,[(I a0.Many),(.l 93 (a0.Grants.map ax))])],H0⟩)<|.nil) fun L=>ai tt<|ai (rfl:Z0)<|aJ h (gu (fun v=>yY a0 v.1 v.2) (([]:List (List Bool)),0)) fun x1 h=>L h
end
section
variable (a0:Int)(a1:(List (List Bool)))(a2:Int)
abbrev xA(a0:Int)(a1:(List (List Bool)))(a2:Int)(r:Bool):aR×HP:=(.ret (.b r),H0)
def gZ:Option Bool:=
 (fY a2).bind fun (j1:Nat)=>
 (a1[j1]?).bind fun (y3:(List Bool))=>
 (fY a0).bind fun (j5:Nat)=>
 (y3[j5]?).bind fun (y7:Bool)=>
 some y7
theorem uT(r:Bool)(h:gZ a0 a1 a2=some r):call G Ω0 E0 50 [(I a0),(.e (.l 42 (a1.map (bM 4 AV.b))) 0),(.e (I a2) 0)] H0=some (xA a0 a1 a2 r):=
 aH TY (xN fun j1=>.ex fun (y3:(List Bool))=>ao (.v (.l 4 (y3.map AV.b)))<|xN fun j5=>xB fun y7=>.nil) fun L=>sI h fun j1 h2 h=>ai h2<|cw h fun y3 h4 h=>ai (aZ (bM 4 AV.b) h4)<|sI h fun j5 h6 h=>ai h6<|cw h fun y7 h8 h=>ai (aZ AV.b h8)<|L h
end
end
end Go.Proofs.Ytkkkkondjclcnaa.A
