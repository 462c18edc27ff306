/- Functions of the program as plain functions, by program. -/
import Derived.Test.YtndeklbmglgonaaGreatTypes
import Derived.Test.YtndeklbmglgonaaGreatLift
import Derived.Test.YtndeklbmglgonaaGreatFE
set_option maxRecDepth 100000
set_option linter.unusedSectionVars false
set_option linter.unusedVariables false
set_option linter.unusedSimpArgs false
set_option linter.constructorNameAsVariable false
namespace Go.Proofs.YtndeklbmglgonaaGreat.A
open Go
noncomputable section
variable [Lp]
section
variable (a0:an)(a1:Int)
abbrev Hf(a0:an)(a1:Int)(r:Bool):bh×HP:=(.ret (.b r),H0)
def iG:Option Bool:=
 if 0≤a1 then
  some (decide (a1<a0.Many))
 else
  some false
theorem kE(r:Bool)(h:iG a0 a1=some r):call G Ω0 E0 78 [(.a [(I a0.Many),(.l 115 (a0.Grants.map aF))]),(I a1)] H0=some (Hf a0 a1 r):=
 aO G78 (.or (FF<|.nil) (Kz<|.nil)) fun L=>ai tt<|bB h (fun h1 h=>Kt (decide_eq_true h1)<|L h) (fun h1 h=>ai (g1 (decide_eq_false h1))<|ai (g1 (decide_eq_false h1))<|ai (g1 (decide_eq_false h1))<|ai (g1 (decide_eq_false h1))<|ai (decide_eq_false h1)<|L h)
end
section
variable (a0:il)(a1:an)
abbrev AR(a0:il)(a1:an)(r:Bool):bh×HP:=(.ret (.b r),H0)
def iW:Option Bool:=
 (iG a1 a0.Who).bind fun (r1:Bool)=>
 if r1=true then
  (iG a1 a0.For).bind fun (r4:Bool)=>
  some (!r4)
 else
  some true
theorem wK(r:Bool)(h:iW a0 a1=some r):call G Ω0 E0 95 [(.a [(I a0.Who),(I a0.For)]),(.e (.a [(I a1.Many),(.l 115 (a1.Grants.map aF))]) 0)] H0=some (AR a0 a1 r):=
 aO G95 (bt<|xB fun r1=>.or (js<|xB fun r4=>fF<|.nil) (Dt<|.nil)) fun L=>pC<|aB h (kE a1 a0.Who) fun r1 h=>aM h (fun h3 h=>ai (g0 (congrArg not h3))<|ai (g0 (congrArg not h3))<|ai (g0 (congrArg not h3))<|ai (rfl:Z0)<|ai (g0 (congrArg not h3))<|aB h (kE a1 a0.For) fun r4 h=>nX (congrArg not h3)<|L h) (fun h3 h=>Dq (congrArg not h3)<|L h)
end
section
variable (a0:(List il))(a1:an)
def gk(v0_8:Nat):Option (Nat⊕(Nat⊕(Nat×Bool))):=
 if (v0_8:Int)<(a0.length:Int) then
  (a0[v0_8]?).bind fun (y2:il)=>
  (iW y2 a1).bind fun (r4:Bool)=>
  if r4=true then
   some (.inr (.inl v0_8))
  else
   if IntKind.i64.wrap ((v0_8:Int)+1)=((v0_8+1:Nat):Int) then
    some (.inl (v0_8+1))
   else none
 else
  some (.inr (.inr (v0_8,decide ((v0_8:Int)<(a0.length:Int)))))
abbrev mr(v:Nat):St:=⟨[(0,(.l 115 (a0.map aF))),(1,(.f 95 [(.e (.a [(I a1.Many),(.l 115 (a1.Grants.map aF))]) 0)])),(7,(I (a0.length:Int))),(8,(I (v:Int)))],[],H0⟩
abbrev mu(x:(Nat⊕(Nat×Bool))):aJ×St:=match x with | .inl z1=>(.ret,⟨[(4,(I (z1:Int)))],[],H0⟩) | .inr (z1,z2)=>((.ex 0),⟨[(0,(.l 115 (a0.map aF))),(1,(.f 95 [(.e (.a [(I a1.Many),(.l 115 (a1.Grants.map aF))]) 0)])),(7,(I (a0.length:Int))),(8,(I (z1:Int))),(9,(.b z2))],[],H0⟩)
theorem mc(v0_8:Nat)(o:Nat⊕(Nat⊕(Nat×Bool)))(h:gk a0 a1 v0_8=some o):bu E0 Jm (mr a0 a1) (mu a0 a1) v0_8 o:=
 bD (.or (bt<|ao (.n v0_8)<|.ex fun (y2:il)=>ao (.v (.a [(I y2.Who),(I y2.For)]))<|xB fun r4=>oN (ao (.i ((v0_8+1:Nat):Int))<|.nil)) (bf<|.nil)) fun L=>bB h (fun h1 h=>ai (decide_eq_true h1)<|ai (rI v0_8)<|ba h fun y2 h3 h=>ai (ay aF h3)<|aB h (wK y2 a1) fun r4 h=>aM h (fun h6 h=>ai h6<|L h) (fun h6 h=>ai h6<|aA h fun w7 h=>ai w7<|L h)) (fun h1 h=>ai (decide_eq_false h1)<|L h)
abbrev nY(a0:(List il))(a1:an)(r:Int):bh×HP:=(.ret (I r),H0)
def gU:Option Int:=
 (lp (fun v=>gk a0 a1 v) 0).bind fun (x1:(Nat⊕(Nat×Bool)))=>match x1 with
 | .inl ya_2=>
  some (ya_2:Int)
 | .inr yb_2=>
  some (-1)
theorem me(r:Int)(h:gU a0 a1=some r):call G Ω0 E0 109 [(.l 115 (a0.map aF)),(.f 95 [(.e (.a [(I a1.Many),(.l 115 (a1.Grants.map aF))]) 0)])] H0=some (nY a0 a1 r):=
 aO aaC (ao (.i (a0.length:Int))<|.or (.ex fun (ya_2:Nat)=>ao (.lp .ret ⟨[(4,(I (ya_2:Int)))],[],H0⟩)<|.nil) (.ex fun (yb_2:(Nat×Bool))=>ao (.lp (.ex 0) ⟨[(0,(.l 115 (a0.map aF))),(1,(.f 95 [(.e (.a [(I a1.Many),(.l 115 (a1.Grants.map aF))]) 0)])),(7,(I (a0.length:Int))),(8,(I (yb_2.1:Int))),(9,(.b yb_2.2))],[],H0⟩)<|.nil)) fun L=>ai (ax aF a0)<|bO h (cV (mc a0 a1) 0) (fun ya_2 h=>L h) (fun yb_2 h=>L h)
abbrev mg(a0:(List il))(a1:an)(r:Bool):bh×HP:=(.ret (.b r),H0)
def dV:Option Bool:=
 (gU a0 a1).bind fun (r1:Int)=>
 some (decide (0≤r1))
theorem kZ(r:Bool)(h:dV a0 a1=some r):call G Ω0 E0 94 [(.l 115 (a0.map aF)),(.f 95 [(.e (.a [(I a1.Many),(.l 115 (a1.Grants.map aF))]) 0)])] H0=some (mg a0 a1 r):=
 aO G94 (xI fun r1=>.nil) fun L=>aB h (me a0 a1) fun r1 h=>L h
end
section
variable (a0:an)
abbrev DA(a0:an)(r:Int):bh×HP:=(.ret (I r),H0)
def nd:Option Int:=
 if a0.Many<1 then
  some 3
 else
  if 6<a0.Many then
   some 3
  else
   if 20<(a0.Grants.length:Int) then
    some 2
   else
    (dV a0.Grants a0).bind fun (r4:Bool)=>
    if r4=true then
     some 5
    else
     some 0
theorem zB(r:Int)(h:nd a0=some r):call G Ω0 E0 76 [(.a [(I a0.Many),(.l 115 (a0.Grants.map aF))])] H0=some (DA a0 r):=
 aO G76 (bt<|.or (Ky<|.nil) (IL<|oN (bt<|ao (.i (a0.Grants.length:Int))<|oN (xB fun r4=>oN (.nil))))) fun L=>pC<|bB h (fun h1 h=>ai (g0 (decide_eq_true h1))<|ai (g0 (decide_eq_true h1))<|ai (g0 (decide_eq_true h1))<|ai (decide_eq_true h1)<|ai tt<|L h) (fun h1 h=>ai (g0 (decide_eq_false h1))<|ai (g0 (decide_eq_false h1))<|ai (rfl:Z0)<|ai (g0 (decide_eq_false h1))<|ai (decide_eq_false h1)<|bB h (fun h2 h=>ai (decide_eq_true h2)<|L h) (fun h2 h=>jr (decide_eq_false h2)<|ai (ax aF a0.Grants)<|bB h (fun h3 h=>ai (decide_eq_true h3)<|L h) (fun h3 h=>jr (decide_eq_false h3)<|aB h (kZ a0.Grants a0) fun r4 h=>aM h (fun h6 h=>ai h6<|L h) (fun h6 h=>ai h6<|L h))))
end
section
variable (a0:Int)(a1:Program)
abbrev DB(a0:Int)(a1:Program)(r:Bool):bh×HP:=(.ret (.b r),H0)
def nh:Option Bool:=
 (iG a1.an a0).bind fun (r1:Bool)=>
 some (!r1)
theorem zC(r:Bool)(h:nh a0 a1=some r):call G Ω0 E0 77 [(I a0),(.e (.a (ah a1)) 0)] H0=some (DB a0 a1 r):=
 aO G77 (xB fun r1=>.nil) fun L=>aB h (kE a1.an a0) fun r1 h=>L h
end
section
variable (a0:(List Int))(a1:Program)
def gX(v0_8:Nat):Option (Nat⊕(Nat⊕(Nat×Bool))):=
 if (v0_8:Int)<(a0.length:Int) then
  (a0[v0_8]?).bind fun (y2:Int)=>
  (nh y2 a1).bind fun (r4:Bool)=>
  if r4=true then
   some (.inr (.inl v0_8))
  else
   if IntKind.i64.wrap ((v0_8:Int)+1)=((v0_8+1:Nat):Int) then
    some (.inl (v0_8+1))
   else none
 else
  some (.inr (.inr (v0_8,decide ((v0_8:Int)<(a0.length:Int)))))
abbrev nZ(v:Nat):St:=⟨[(0,(.l 3 (a0.map (I)))),(1,(.f 77 [(.e (.a (ah a1)) 0)])),(7,(I (a0.length:Int))),(8,(I (v:Int)))],[],H0⟩
abbrev n7(x:(Nat⊕(Nat×Bool))):aJ×St:=match x with | .inl z1=>(.ret,⟨[(4,(I (z1:Int)))],[],H0⟩) | .inr (z1,z2)=>((.ex 0),⟨[(0,(.l 3 (a0.map (I)))),(1,(.f 77 [(.e (.a (ah a1)) 0)])),(7,(I (a0.length:Int))),(8,(I (z1:Int))),(9,(.b z2))],[],H0⟩)
theorem nj(v0_8:Nat)(o:Nat⊕(Nat⊕(Nat×Bool)))(h:gX a0 a1 v0_8=some o):bu E0 Fb (nZ a0 a1) (n7 a0 a1) v0_8 o:=
 bD (.or (bt<|ao (.n v0_8)<|xI fun y2=>xB fun r4=>oN (ao (.i ((v0_8+1:Nat):Int))<|.nil)) (bf<|.nil)) fun L=>bB h (fun h1 h=>ai (decide_eq_true h1)<|ai (rI v0_8)<|ba h fun y2 h3 h=>ai (ay (I) h3)<|aB h (zC y2 a1) fun r4 h=>aM h (fun h6 h=>ai h6<|L h) (fun h6 h=>ai h6<|aA h fun w7 h=>ai w7<|L h)) (fun h1 h=>ai (decide_eq_false h1)<|L h)
abbrev o0(a0:(List Int))(a1:Program)(r:Int):bh×HP:=(.ret (I r),H0)
def iX:Option Int:=
 (lp (fun v=>gX a0 a1 v) 0).bind fun (x1:(Nat⊕(Nat×Bool)))=>match x1 with
 | .inl ya_2=>
  some (ya_2:Int)
 | .inr yb_2=>
  some (-1)
theorem nm(r:Int)(h:iX a0 a1=some r):call G Ω0 E0 56 [(.l 3 (a0.map (I))),(.f 77 [(.e (.a (ah a1)) 0)])] H0=some (o0 a0 a1 r):=
 aO PZ (ao (.i (a0.length:Int))<|.or (.ex fun (ya_2:Nat)=>ao (.lp .ret ⟨[(4,(I (ya_2:Int)))],[],H0⟩)<|.nil) (.ex fun (yb_2:(Nat×Bool))=>ao (.lp (.ex 0) ⟨[(0,(.l 3 (a0.map (I)))),(1,(.f 77 [(.e (.a (ah a1)) 0)])),(7,(I (a0.length:Int))),(8,(I (yb_2.1:Int))),(9,(.b yb_2.2))],[],H0⟩)<|.nil)) fun L=>ai (ax (I) a0)<|bO h (cV (nj a0 a1) 0) (fun ya_2 h=>L h) (fun yb_2 h=>L h)
abbrev np(a0:(List Int))(a1:Program)(r:Bool):bh×HP:=(.ret (.b r),H0)
def eA:Option Bool:=
 (iX a0 a1).bind fun (r1:Int)=>
 some (decide (0≤r1))
theorem lL(r:Bool)(h:eA a0 a1=some r):call G Ω0 E0 28 [(.l 3 (a0.map (I))),(.f 77 [(.e (.a (ah a1)) 0)])] H0=some (np a0 a1 r):=
 aO PY (xI fun r1=>.nil) fun L=>aB h (nm a0 a1) fun r1 h=>L h
end
section
variable (a0:(List (List Label)))
def cS(v0_3:Int)(v0_11:Nat):Option ((Int×Nat)⊕(Int×Nat×Bool)):=
 if (v0_11:Int)<(a0.length:Int) then
  (a0[v0_11]?).bind fun (y2:(List Label))=>
  if IntKind.i64.wrap (v0_3+(y2.length:Int))=v0_3+(y2.length:Int) then
   if (v0_3+(y2.length:Int))<0 then
    none
   else
    if IntKind.i64.wrap ((v0_11:Int)+1)=((v0_11+1:Nat):Int) then
     some (.inl (v0_3+(y2.length:Int),v0_11+1))
    else none
  else none
 else
  some (.inr (v0_3,v0_11,decide ((v0_11:Int)<(a0.length:Int))))
abbrev qY(v:(Int×Nat)):St:=⟨[(0,(.l 26 (a0.map (bM 89 ar)))),(3,(I v.1)),(9,(.l 26 (a0.map (bM 89 ar)))),(10,(I (a0.length:Int))),(11,(I (v.2:Int)))],[],H0⟩
abbrev qZ(x:(Int×Nat×Bool)):aJ×St:=((.ex 0),⟨[(0,(.l 26 (a0.map (bM 89 ar)))),(3,(I x.1)),(9,(.l 26 (a0.map (bM 89 ar)))),(10,(I (a0.length:Int))),(11,(I (x.2.1:Int))),(12,(.b x.2.2))],[],H0⟩)
theorem qn(v0_3:Int)(v0_11:Nat)(o:(Int×Nat)⊕(Int×Nat×Bool))(h:cS a0 v0_3 v0_11=some o):bu E0 Mc (qY a0) (qZ a0) (v0_3,v0_11) o:=
 bD (.or (bt<|ao (.n v0_11)<|.ex fun (y2:(List Label))=>ao (.v (.l 89 (y2.map ar)))<|ao (.i (y2.length:Int))<|ao (.i (v0_3+(y2.length:Int)))<|bf<|ao (.i ((v0_11+1:Nat):Int))<|.nil) (bf<|.nil)) fun L=>bB h (fun h1 h=>ai (decide_eq_true h1)<|ai (rI v0_11)<|ba h fun y2 h3 h=>ai (ay (bM 89 ar) h3)<|ai (ax ar y2)<|aA h fun w4 h=>ai w4<|Kq h (fun _ h=>Mu h) (fun h5 h=>ai (decide_eq_false h5)<|aA h fun w6 h=>ai w6<|L h)) (fun h1 h=>ai (decide_eq_false h1)<|L h)
def cT(v1_6:(List Label))(v1_27:Nat):Option (((List Label)×Nat)⊕((List Label)×Nat×Bool)):=
 if (v1_27:Int)<(a0.length:Int) then
  (a0[v1_27]?).bind fun (y5:(List Label))=>
  if v1_6.length+y5.length≤1000000000 then
   if IntKind.i64.wrap ((v1_27:Int)+1)=((v1_27+1:Nat):Int) then
    some (.inl (v1_6++y5,v1_27+1))
   else none
  else none
 else
  some (.inr (v1_6,v1_27,decide ((v1_27:Int)<(a0.length:Int))))
abbrev q5(v:((List Label)×Nat)):St:=⟨[(6,(.o 89 (v.1.map ar))),(25,(.l 26 (a0.map (bM 89 ar)))),(26,(I (a0.length:Int))),(27,(I (v.2:Int)))],[],H0⟩
abbrev q6(x:((List Label)×Nat×Bool)):aJ×St:=((.ex 2),⟨[(6,(.o 89 (x.1.map ar))),(25,(.l 26 (a0.map (bM 89 ar)))),(26,(I (a0.length:Int))),(27,(I (x.2.1:Int))),(28,(.b x.2.2))],[],H0⟩)
theorem qo(v1_6:(List Label))(v1_27:Nat)(o:((List Label)×Nat)⊕((List Label)×Nat×Bool))(h:cT a0 v1_6 v1_27=some o):bu E0 Md (q5 a0) (q6 a0) (v1_6,v1_27) o:=
 bD (.or (bt<|ao (.n v1_27)<|.ex fun (y5:(List Label))=>ao (.v (.l 89 (y5.map ar)))<|ao (.l ((v1_6++y5).map ar))<|ao (.i ((v1_27+1:Nat):Int))<|.nil) (bf<|.nil)) fun L=>bB h (fun h4 h=>ai (decide_eq_true h4)<|ai (rI v1_27)<|ba h fun y5 h6 h=>ai (ay (bM 89 ar) h6)<|ai ff<|aA h fun h7 h=>ai ((dR ar (n:=2) (fun _=>rfl) y5):(y5.map ar).all (fun e=>e.nc==2)=true)<|ai ((fl h7 (by decide)):((v1_6.map ar).length+(y5.map ar).length)*48≤140737488355328)<|ai ((fm h7):(v1_6.map ar).length+(y5.map ar).length≤maxLen)<|ai (List.map_append.symm:v1_6.map ar++y5.map ar=(v1_6++y5).map ar)<|aA h fun w8 h=>ai w8<|L h) (fun h4 h=>ai (decide_eq_false h4)<|L h)
abbrev sh(a0:(List (List Label)))(r:(List Label)):bh×HP:=(.ret (.l 89 (r.map ar)),H0)
def fe:Option (List Label):=
 (lp (fun v=>cS a0 v.1 v.2) (0,0)).bind fun (x1:(Int×Nat×Bool))=>
 if 0≤x1.1∧x1.1≤1000000 then
  (lp (fun v=>cT a0 v.1 v.2) (([]:List Label),0)).bind fun (x4:((List Label)×Nat×Bool))=>
  some x4.1
 else none
theorem qp(r:(List Label))(h:fe a0=some r):call G Ω0 E0 79 [(.l 26 (a0.map (bM 89 ar)))] H0=some (sh a0 r):=
 aO G79 (ao (.i (a0.length:Int))<|.ex fun (x1:(Int×Nat×Bool))=>ao (.lp (.ex 0) ⟨[(0,(.l 26 (a0.map (bM 89 ar)))),(3,(I x1.1)),(9,(.l 26 (a0.map (bM 89 ar)))),(10,(I (a0.length:Int))),(11,(I (x1.2.1:Int))),(12,(.b x1.2.2))],[],H0⟩)<|ao (.i (a0.length:Int))<|.ex fun (x4:((List Label)×Nat×Bool))=>ao (.lp (.ex 2) ⟨[(6,(.o 89 (x4.1.map ar))),(25,(.l 26 (a0.map (bM 89 ar)))),(26,(I (a0.length:Int))),(27,(I (x4.2.1:Int))),(28,(.b x4.2.2))],[],H0⟩)<|.nil) fun L=>ai (ax (bM 89 ar) a0)<|aB h (cV (fun v=>qn a0 v.1 v.2) (0,0)) fun x1 h=>aA h fun h3 h=>ai (Ks h3:Ω0 96 [.n,(I x1.1)]=some (.o 89 []))<|ai (ax (bM 89 ar) a0)<|aB h (cV (fun v=>qo a0 v.1 v.2) (([]:List Label),0)) fun x4 h=>L h
end
section
variable (a0:Int)(a1:an)
abbrev AS(a0:Int)(a1:an)(r:Bool):bh×HP:=(.ret (.b r),H0)
def k9:Option Bool:=
 (iG a1 a0).bind fun (r1:Bool)=>
 some (!r1)
theorem wL(r:Bool)(h:k9 a0 a1=some r):call G Ω0 E0 110 [(I a0),(.e (.a [(I a1.Many),(.l 115 (a1.Grants.map aF))]) 0)] H0=some (AS a0 a1 r):=
 aO aaD (xB fun r1=>.nil) fun L=>aB h (kE a1 a0) fun r1 h=>L h
end
section
variable (a0:(List Int))(a1:an)
def gl(v0_8:Nat):Option (Nat⊕(Nat⊕(Nat×Bool))):=
 if (v0_8:Int)<(a0.length:Int) then
  (a0[v0_8]?).bind fun (y2:Int)=>
  (k9 y2 a1).bind fun (r4:Bool)=>
  if r4=true then
   some (.inr (.inl v0_8))
  else
   if IntKind.i64.wrap ((v0_8:Int)+1)=((v0_8+1:Nat):Int) then
    some (.inl (v0_8+1))
   else none
 else
  some (.inr (.inr (v0_8,decide ((v0_8:Int)<(a0.length:Int)))))
abbrev mw(v:Nat):St:=⟨[(0,(.l 3 (a0.map (I)))),(1,(.f 110 [(.e (.a [(I a1.Many),(.l 115 (a1.Grants.map aF))]) 0)])),(7,(I (a0.length:Int))),(8,(I (v:Int)))],[],H0⟩
abbrev mx(x:(Nat⊕(Nat×Bool))):aJ×St:=match x with | .inl z1=>(.ret,⟨[(4,(I (z1:Int)))],[],H0⟩) | .inr (z1,z2)=>((.ex 0),⟨[(0,(.l 3 (a0.map (I)))),(1,(.f 110 [(.e (.a [(I a1.Many),(.l 115 (a1.Grants.map aF))]) 0)])),(7,(I (a0.length:Int))),(8,(I (z1:Int))),(9,(.b z2))],[],H0⟩)
theorem mh(v0_8:Nat)(o:Nat⊕(Nat⊕(Nat×Bool)))(h:gl a0 a1 v0_8=some o):bu E0 Fb (mw a0 a1) (mx a0 a1) v0_8 o:=
 bD (.or (bt<|ao (.n v0_8)<|xI fun y2=>xB fun r4=>oN (ao (.i ((v0_8+1:Nat):Int))<|.nil)) (bf<|.nil)) fun L=>bB h (fun h1 h=>ai (decide_eq_true h1)<|ai (rI v0_8)<|ba h fun y2 h3 h=>ai (ay (I) h3)<|aB h (wL y2 a1) fun r4 h=>aM h (fun h6 h=>ai h6<|L h) (fun h6 h=>ai h6<|aA h fun w7 h=>ai w7<|L h)) (fun h1 h=>ai (decide_eq_false h1)<|L h)
abbrev n8(a0:(List Int))(a1:an)(r:Int):bh×HP:=(.ret (I r),H0)
def gY:Option Int:=
 (lp (fun v=>gl a0 a1 v) 0).bind fun (x1:(Nat⊕(Nat×Bool)))=>match x1 with
 | .inl ya_2=>
  some (ya_2:Int)
 | .inr yb_2=>
  some (-1)
theorem mi(r:Int)(h:gY a0 a1=some r):call G Ω0 E0 56 [(.l 3 (a0.map (I))),(.f 110 [(.e (.a [(I a1.Many),(.l 115 (a1.Grants.map aF))]) 0)])] H0=some (n8 a0 a1 r):=
 aO PZ (ao (.i (a0.length:Int))<|.or (.ex fun (ya_2:Nat)=>ao (.lp .ret ⟨[(4,(I (ya_2:Int)))],[],H0⟩)<|.nil) (.ex fun (yb_2:(Nat×Bool))=>ao (.lp (.ex 0) ⟨[(0,(.l 3 (a0.map (I)))),(1,(.f 110 [(.e (.a [(I a1.Many),(.l 115 (a1.Grants.map aF))]) 0)])),(7,(I (a0.length:Int))),(8,(I (yb_2.1:Int))),(9,(.b yb_2.2))],[],H0⟩)<|.nil)) fun L=>ai (ax (I) a0)<|bO h (cV (mh a0 a1) 0) (fun ya_2 h=>L h) (fun yb_2 h=>L h)
abbrev mj(a0:(List Int))(a1:an)(r:Bool):bh×HP:=(.ret (.b r),H0)
def dX:Option Bool:=
 (gY a0 a1).bind fun (r1:Int)=>
 some (decide (0≤r1))
theorem la(r:Bool)(h:dX a0 a1=some r):call G Ω0 E0 28 [(.l 3 (a0.map (I))),(.f 110 [(.e (.a [(I a1.Many),(.l 115 (a1.Grants.map aF))]) 0)])] H0=some (mj a0 a1 r):=
 aO PY (xI fun r1=>.nil) fun L=>aB h (mi a0 a1) fun r1 h=>L h
end
section
variable (a1:b9)(a0:an)
def eb(v0_5:Nat):Option (Nat⊕(Unit⊕(Nat×Bool))):=
 if (v0_5:Int)<(a1.Names.length:Int) then
  (a1.Names[v0_5]?).bind fun (y9:Int)=>
  if IntKind.i64.wrap ((v0_5:Int) - 1)=(v0_5:Int) - 1 then
   (dU ((v0_5:Int) - 1)).bind fun (j12:Nat)=>
   (a1.Names[j12]?).bind fun (y14:Int)=>
   if y9≤y14 then
    some (.inr (.inl ()))
   else
    if IntKind.i64.wrap ((v0_5:Int)+1)=((v0_5+1:Nat):Int) then
     some (.inl (v0_5+1))
    else none
  else none
 else
  some (.inr (.inr (v0_5,decide ((v0_5:Int)<(a1.Names.length:Int)))))
abbrev AU(v:Nat):St:=⟨[(3,(.p ⟨0,3⟩ 0)),(5,(I (v:Int)))],[(3,[(I a1.Owner),(.l 3 (a1.Names.map (I)))])],H0⟩
abbrev AW(x:(Unit⊕(Nat×Bool))):aJ×St:=match x with | .inl ()=>(.ret,⟨[(4,(I 4))],[],H0⟩) | .inr (z1,z2)=>((.ex 1),⟨[(3,(.p ⟨0,3⟩ 0)),(5,(I (z1:Int))),(26,(.b z2))],[(3,[(I a1.Owner),(.l 3 (a1.Names.map (I)))])],H0⟩)
theorem zD(v0_5:Nat)(o:Nat⊕(Unit⊕(Nat×Bool)))(h:eb a1 v0_5=some o):bu E0 Mn (AU a1) (AW a1) v0_5 o:=
 bD (bt<|ao (.i (a1.Names.length:Int))<|.or (b5<|ao (.n v0_5)<|xI fun y9=>bt<|ao (.i ((v0_5:Int) - 1))<|xN fun j12=>xI fun y14=>oN (ao (.i ((v0_5+1:Nat):Int))<|.nil)) (bf<|.nil)) fun L=>ai (rfl:Z0)<|ai (ax (I) a1.Names)<|bB h (fun h8 h=>II (decide_eq_true h8)<|ai (rI v0_5)<|ba h fun y9 h10 h=>ai (ay (I) h10)<|ai tt<|ai tt<|ai tt<|ai (rfl:Z0)<|ai tt<|ai tt<|aA h fun w11 h=>ai w11<|ai tt<|fG h fun j12 h13 h=>ai h13<|ba h fun y14 h15 h=>ai (ay (I) h15)<|cD<|bB h (fun h16 h=>ai (decide_eq_true h16)<|L h) (fun h16 h=>ai (decide_eq_false h16)<|aA h fun w17 h=>ai w17<|L h)) (fun h8 h=>ai (decide_eq_false h8)<|L h)
abbrev DC(a0:an)(a1:b9)(r:Int):bh×HP:=(.ret (I r),H0)
def nq(a1:b9):Option Int:=
 (iG a0 a1.Owner).bind fun (r1:Bool)=>
 if r1=true then
  if 6<(a1.Names.length:Int) then
   some 2
  else
   (dX a1.Names a0).bind fun (r5:Bool)=>
   if r5=true then
    some 5
   else
    (lp (fun v=>eb a1 v) 1).bind fun (x8:(Unit⊕(Nat×Bool)))=>match x8 with
    | .inl ya_9=>
     some 4
    | .inr yb_9=>
     some 0
 else
  some 5
theorem zE(a1:b9)(r:Int)(h:nq a0 a1=some r):call G Ω0 E0 97 [(.a [(I a0.Many),(.l 115 (a0.Grants.map aF))]),(.a [(I a1.Owner),(.l 3 (a1.Names.map (I)))])] H0=some (DC a0 a1 r):=
 aO G97 (b5<|xB fun r1=>.or (rT<|ao (.i (a1.Names.length:Int))<|oN (bt<|xB fun r5=>oN (.or (.ex fun (ya_9:Unit)=>ao (.lp .ret ⟨[(4,(I 4))],[],H0⟩)<|.nil) (.ex fun (yb_9:(Nat×Bool))=>ao (.lp (.ex 1) ⟨[(3,(.p ⟨0,3⟩ 0)),(5,(I (yb_9.1:Int))),(26,(.b yb_9.2))],[(3,[(I a1.Owner),(.l 3 (a1.Names.map (I)))])],H0⟩)<|.nil)))) (bt<|.nil)) fun L=>ai tt<|ai tt<|ai (rfl:Z0)<|ai (rfl:Z0)<|aB h (kE a0 a1.Owner) fun r1 h=>aM h (fun h3 h=>jr (congrArg not h3)<|ai (ax (I) a1.Names)<|bB h (fun h4 h=>ai (decide_eq_true h4)<|L h) (fun h4 h=>Dr (decide_eq_false h4)<|aB h (la a1.Names a0) fun r5 h=>aM h (fun h7 h=>ai h7<|L h) (fun h7 h=>ai h7<|bO h (cV (zD a1) 1) (fun ya_9 h=>L h) (fun yb_9 h=>L h)))) (fun h3 h=>ai (congrArg not h3)<|L h)
end
section
variable (a0:an)(a1:Label)
def e9(a1:Label)(v0_16:Nat)(y2:(List b9))(v1_25:Nat):Option (Nat⊕(Int⊕(Nat×Bool))):=
 if (v1_25:Int)<(y2.length:Int) then
  (y2[v1_25]?).bind fun (y6:b9)=>
  (nq a0 y6).bind fun (r8:Int)=>
  if (r8 !=0)=true then
   some (.inr (.inl r8))
  else
   if IntKind.i64.wrap ((v1_25:Int)+1)=((v1_25+1:Nat):Int) then
    some (.inl (v1_25+1))
   else none
 else
  some (.inr (.inr (v1_25,decide ((v1_25:Int)<(y2.length:Int)))))
abbrev DD(v0_16:Nat)(y2:(List b9))(v:Nat):St:=⟨[(2,(.p ⟨0,2⟩ 0)),(14,(.l 87 (([a1.Read,a1.Write]).map (bM 134 aY)))),(15,(I ((([a1.Read,a1.Write]).length:Nat):Int))),(16,(I (v0_16:Int))),(23,(.l 134 (y2.map aY))),(24,(I (y2.length:Int))),(25,(I (v:Int)))],[(2,[(I a0.Many),(.l 115 (a0.Grants.map aF))])],H0⟩
abbrev DE(v0_16:Nat)(y2:(List b9))(x:(Int⊕(Nat×Bool))):aJ×St:=match x with | .inl z1=>(.ret,⟨[(4,(I z1))],[],H0⟩) | .inr (z1,z2)=>((.ex 2),⟨[(2,(.p ⟨0,2⟩ 0)),(14,(.l 87 (([a1.Read,a1.Write]).map (bM 134 aY)))),(15,(I ((([a1.Read,a1.Write]).length:Nat):Int))),(16,(I (v0_16:Int))),(23,(.l 134 (y2.map aY))),(24,(I (y2.length:Int))),(25,(I (z1:Int))),(26,(.b z2))],[(2,[(I a0.Many),(.l 115 (a0.Grants.map aF))])],H0⟩)
theorem Ci(v0_16:Nat)(y2:(List b9))(v1_25:Nat)(o:Nat⊕(Int⊕(Nat×Bool)))(h:e9 a0 a1 v0_16 y2 v1_25=some o):bu E0 Me (DD a0 a1 v0_16 y2) (DE a0 a1 v0_16 y2) v1_25 o:=
 bD (.or (bt<|ao (.n v1_25)<|.ex fun (y6:b9)=>ao (.v (.a [(I y6.Owner),(.l 3 (y6.Names.map (I)))]))<|jt<|xI fun r8=>oN (ao (.i ((v1_25+1:Nat):Int))<|.nil)) (bf<|.nil)) fun L=>bB h (fun h5 h=>ai (decide_eq_true h5)<|ai (rI v1_25)<|ba h fun y6 h7 h=>ai (ay aY h7)<|ai tt<|ai ff<|ai (rfl:Z0)<|ai tt<|ai (rfl:Z0)<|ai (rfl:Z0)<|ai (rfl:Z0)<|aB h (zE a0 y6) fun r8 h=>aM h (fun h10 h=>ai h10<|L h) (fun h10 h=>ai h10<|aA h fun w11 h=>ai w11<|L h)) (fun h5 h=>ai (decide_eq_false h5)<|L h)
def bV(v0_16:Nat):Option (Nat⊕(Unit⊕(Int⊕(Nat×Bool)))):=
 if (v0_16:Int)<((([a1.Read,a1.Write]).length:Nat):Int) then
  (([a1.Read,a1.Write])[v0_16]?).bind fun (y2:(List b9))=>
  if 4<(y2.length:Int) then
   some (.inr (.inl ()))
  else
   (lp (fun v=>e9 a0 a1 v0_16 y2 v) 0).bind fun (x5:(Int⊕(Nat×Bool)))=>match x5 with
   | .inl ya_6=>
    some (.inr (.inr (.inl ya_6)))
   | .inr yb_6=>
    if IntKind.i64.wrap ((v0_16:Int)+1)=((v0_16+1:Nat):Int) then
     some (.inl (v0_16+1))
    else none
 else
  some (.inr (.inr (.inr (v0_16,decide ((v0_16:Int)<((([a1.Read,a1.Write]).length:Nat):Int))))))
abbrev DF(v:Nat):St:=⟨[(2,(.p ⟨0,2⟩ 0)),(14,(.l 87 (([a1.Read,a1.Write]).map (bM 134 aY)))),(15,(I ((([a1.Read,a1.Write]).length:Nat):Int))),(16,(I (v:Int)))],[(2,[(I a0.Many),(.l 115 (a0.Grants.map aF))])],H0⟩
abbrev DG(x:(Unit⊕(Int⊕(Nat×Bool)))):aJ×St:=match x with | .inl ()=>(.ret,⟨[(4,(I 2))],[],H0⟩) | .inr (.inl z1)=>(.ret,⟨[(4,(I z1))],[],H0⟩) | .inr (.inr (z1,z2))=>((.ex 0),⟨[(2,(.p ⟨0,2⟩ 0)),(14,(.l 87 (([a1.Read,a1.Write]).map (bM 134 aY)))),(15,(I ((([a1.Read,a1.Write]).length:Nat):Int))),(16,(I (z1:Int))),(17,(.b z2))],[(2,[(I a0.Many),(.l 115 (a0.Grants.map aF))])],H0⟩)
theorem Cj(v0_16:Nat)(o:Nat⊕(Unit⊕(Int⊕(Nat×Bool))))(h:bV a0 a1 v0_16=some o):bu E0 Mf (DF a0 a1) (DG a0 a1) v0_16 o:=
 bD (.or (bt<|ao (.n v0_16)<|.ex fun (y2:(List b9))=>ao (.v (.l 134 (y2.map aY)))<|ao (.i (y2.length:Int))<|oN (ao (.i (y2.length:Int))<|.or (.ex fun (ya_6:Int)=>ao (.lp .ret ⟨[(4,(I ya_6))],[],H0⟩)<|.nil) (.ex fun (yb_6:(Nat×Bool))=>ao (.lp (.ex 2) ⟨[(2,(.p ⟨0,2⟩ 0)),(14,(.l 87 (([a1.Read,a1.Write]).map (bM 134 aY)))),(15,(I ((([a1.Read,a1.Write]).length:Nat):Int))),(16,(I (v0_16:Int))),(23,(.l 134 (y2.map aY))),(24,(I (y2.length:Int))),(25,(I (yb_6.1:Int))),(26,(.b yb_6.2))],[(2,[(I a0.Many),(.l 115 (a0.Grants.map aF))])],H0⟩)<|ao (.i ((v0_16+1:Nat):Int))<|.nil))) (bf<|.nil)) fun L=>bB h (fun h1 h=>ai (decide_eq_true h1)<|ai (rI v0_16)<|ba h fun y2 h3 h=>ai (ay (bM 134 aY) h3)<|ai (ax aY y2)<|bB h (fun h4 h=>ai (decide_eq_true h4)<|L h) (fun h4 h=>ai (decide_eq_false h4)<|ai (ax aY y2)<|bO h (cV (Ci a0 a1 v0_16 y2) 0) (fun ya_6 h=>L h) (fun yb_6 h=>aA h fun w8 h=>ai w8<|L h))) (fun h1 h=>ai (decide_eq_false h1)<|L h)
abbrev FQ(a0:an)(a1:Label)(r:Int):bh×HP:=(.ret (I r),H0)
def my:Option Int:=
 (lp (fun v=>bV a0 a1 v) 0).bind fun (x1:(Unit⊕(Int⊕(Nat×Bool))))=>match x1 with
 | .inl ya_2=>
  some 2
 | .inr (.inl yb_2)=>
  some yb_2
 | .inr (.inr yc_2)=>
  some 0
theorem tT(r:Int)(h:my a0 a1=some r):call G Ω0 E0 80 [(.a [(I a0.Many),(.l 115 (a0.Grants.map aF))]),(.a [(.l 134 (a1.Read.map aY)),(.l 134 (a1.Write.map aY))])] H0=some (FQ a0 a1 r):=
 aO G80 (b5<|ao (.l (([a1.Read,a1.Write]).map (bM 134 aY)))<|ao (.i ((([a1.Read,a1.Write]).length:Nat):Int))<|.or (.ex fun (ya_2:Unit)=>ao (.lp .ret ⟨[(4,(I 2))],[],H0⟩)<|.nil) (.or (.ex fun (yb_2:Int)=>ao (.lp .ret ⟨[(4,(I yb_2))],[],H0⟩)<|.nil) (.ex fun (yc_2:(Nat×Bool))=>ao (.lp (.ex 0) ⟨[(2,(.p ⟨0,2⟩ 0)),(14,(.l 87 (([a1.Read,a1.Write]).map (bM 134 aY)))),(15,(I ((([a1.Read,a1.Write]).length:Nat):Int))),(16,(I (yc_2.1:Int))),(17,(.b yc_2.2))],[(2,[(I a0.Many),(.l 115 (a0.Grants.map aF))])],H0⟩)<|.nil))) fun L=>ai tt<|ai tt<|ai (rfl:Z0)<|ai (rfl:Z0)<|ai (rfl:[(.l 134 (a1.Read.map aY)),(.l 134 (a1.Write.map aY))]=([a1.Read,a1.Write]).map (bM 134 aY))<|ai (ax (bM 134 aY) ([a1.Read,a1.Write]))<|IF h (cV (Cj a0 a1) 0) (fun ya_2 h=>L h) (fun yb_2 h=>L h) (fun yc_2 h=>L h)
end
section
variable (a0:Var)
abbrev DH(a0:Var)(r:Bool):bh×HP:=(.ret (.b r),H0)
def nr:Option Bool:=
 if a0.Known=true then
  some false
 else
  if IntKind.i64.wrap ((a0.Label.Read.length:Int)+(a0.Label.Write.length:Int))=(a0.Label.Read.length:Int)+(a0.Label.Write.length:Int) then
   some (decide (0<((a0.Label.Read.length:Int)+(a0.Label.Write.length:Int))))
  else none
theorem zF(r:Bool)(h:nr a0=some r):call G Ω0 E0 82 [(.a (FK a0))] H0=some (DH a0 r):=
 aO G82 (bt<|.or (KA<|.nil) (js<|ao (.i (a0.Label.Read.length:Int))<|js<|ao (.i (a0.Label.Write.length:Int))<|bt<|ao (.i ((a0.Label.Read.length:Int)+(a0.Label.Write.length:Int)))<|b5<|.nil)) fun L=>pC<|aM h (fun h1 h=>ai (g1 (congrArg not h1))<|ai (g1 (congrArg not h1))<|ai (g1 (congrArg not h1))<|ai (g1 (congrArg not h1))<|ai (g1 (congrArg not h1))<|ai (g1 (congrArg not h1))<|ai (g1 (congrArg not h1))<|ai (g1 (congrArg not h1))<|ai (g1 (congrArg not h1))<|ai (g1 (congrArg not h1))<|ai (congrArg not h1)<|L h) (fun h1 h=>IJ (congrArg not h1)<|ai (ax aY a0.Label.Read)<|IJ (congrArg not h1)<|ai (ax aY a0.Label.Write)<|ai (g1 (congrArg not h1))<|aA h fun w2 h=>ai w2<|vz (congrArg not h1)<|L h)
end
section
variable (a0:(List Var))
def gZ(v0_8:Nat):Option (Nat⊕(Nat⊕(Nat×Bool))):=
 if (v0_8:Int)<(a0.length:Int) then
  (a0[v0_8]?).bind fun (y2:Var)=>
  (nr y2).bind fun (r4:Bool)=>
  if r4=true then
   some (.inr (.inl v0_8))
  else
   if IntKind.i64.wrap ((v0_8:Int)+1)=((v0_8+1:Nat):Int) then
    some (.inl (v0_8+1))
   else none
 else
  some (.inr (.inr (v0_8,decide ((v0_8:Int)<(a0.length:Int)))))
abbrev n9(v:Nat):St:=⟨[(0,(.l 91 (a0.map bH))),(1,(.f 82 [])),(7,(I (a0.length:Int))),(8,(I (v:Int)))],[],H0⟩
abbrev oa(x:(Nat⊕(Nat×Bool))):aJ×St:=match x with | .inl z1=>(.ret,⟨[(4,(I (z1:Int)))],[],H0⟩) | .inr (z1,z2)=>((.ex 0),⟨[(0,(.l 91 (a0.map bH))),(1,(.f 82 [])),(7,(I (a0.length:Int))),(8,(I (z1:Int))),(9,(.b z2))],[],H0⟩)
theorem nu(v0_8:Nat)(o:Nat⊕(Nat⊕(Nat×Bool)))(h:gZ a0 v0_8=some o):bu E0 Mo (n9 a0) (oa a0) v0_8 o:=
 bD (.or (bt<|ao (.n v0_8)<|.ex fun (y2:Var)=>ao (.v (.a (FK y2)))<|xB fun r4=>oN (ao (.i ((v0_8+1:Nat):Int))<|.nil)) (bf<|.nil)) fun L=>bB h (fun h1 h=>ai (decide_eq_true h1)<|ai (rI v0_8)<|ba h fun y2 h3 h=>ai (ay bH h3)<|aB h (zF y2) fun r4 h=>aM h (fun h6 h=>ai h6<|L h) (fun h6 h=>ai h6<|aA h fun w7 h=>ai w7<|L h)) (fun h1 h=>ai (decide_eq_false h1)<|L h)
abbrev o7(a0:(List Var))(r:Int):bh×HP:=(.ret (I r),H0)
def iY:Option Int:=
 (lp (fun v=>gZ a0 v) 0).bind fun (x1:(Nat⊕(Nat×Bool)))=>match x1 with
 | .inl ya_2=>
  some (ya_2:Int)
 | .inr yb_2=>
  some (-1)
theorem nv(r:Int)(h:iY a0=some r):call G Ω0 E0 98 [(.l 91 (a0.map bH)),(.f 82 [])] H0=some (o7 a0 r):=
 aO G98 (ao (.i (a0.length:Int))<|.or (.ex fun (ya_2:Nat)=>ao (.lp .ret ⟨[(4,(I (ya_2:Int)))],[],H0⟩)<|.nil) (.ex fun (yb_2:(Nat×Bool))=>ao (.lp (.ex 0) ⟨[(0,(.l 91 (a0.map bH))),(1,(.f 82 [])),(7,(I (a0.length:Int))),(8,(I (yb_2.1:Int))),(9,(.b yb_2.2))],[],H0⟩)<|.nil)) fun L=>ai (ax bH a0)<|bO h (cV (nu a0) 0) (fun ya_2 h=>L h) (fun yb_2 h=>L h)
abbrev nx(a0:(List Var))(r:Bool):bh×HP:=(.ret (.b r),H0)
def eB:Option Bool:=
 (iY a0).bind fun (r1:Int)=>
 some (decide (0≤r1))
theorem lM(r:Bool)(h:eB a0=some r):call G Ω0 E0 81 [(.l 91 (a0.map bH)),(.f 82 [])] H0=some (nx a0 r):=
 aO G81 (xI fun r1=>.nil) fun L=>aB h (nv a0) fun r1 h=>L h
def tU:List cK:=(gM 38 37)::⟨some 39,.fa 2 1,some ⟨38,false⟩,false⟩::⟨some 40,.ld none 39,some ⟨38,false⟩,false⟩::⟨some 41,.ln false 40,some ⟨38,false⟩,false⟩::⟨some 42,.fa 0 1,some ⟨38,false⟩,false⟩::⟨some 43,.fa 0 42,some ⟨38,false⟩,false⟩::⟨some 44,.ld none 43,some ⟨38,false⟩,false⟩::⟨some 45,.bo .gtr false 41 44,some ⟨38,false⟩,false⟩::(gp 46 (.pk 38 (.c (.b true)) 45))::[]
end
section
variable (a0:Program)
def gx(u2_1:Bool):Option Bool:=
 if u2_1=true then
  some true
 else
  some (decide (a0.an.Many<(a0.Speak.length:Int)))
abbrev Ck(u2_1:Bool)(x:Bool):St:=⟨[(1,(.p ⟨0,1⟩ 0)),(46,(.b x))],[(1,(ah a0))],H0⟩
theorem lf(u2_1:Bool)(w:List AV)(x:Bool)(h:gx a0 u2_1=some x):ew G Ω0 E0 [1,46] [1] tU ⟨[(37,(.b u2_1)),(36,(W w 0)),(35,(W w 1)),(34,(W w 2)),(33,(W w 3)),(32,(W w 4)),(31,(W w 5)),(30,(W w 6)),(29,(W w 7)),(28,(W w 8)),(27,(W w 9)),(26,(W w 10)),(25,(W w 11)),(24,(W w 12)),(23,(W w 13)),(22,(W w 14)),(21,(W w 15)),(20,(.b (decide (16<(a0.Vars.length:Int))))),(19,(.b (decide (16<(a0.Vars.length:Int))))),(18,(I (a0.Vars.length:Int))),(17,(.l 91 (a0.Vars.map bH))),(16,(.p ⟨0,1⟩ 5)),(1,(.p ⟨0,1⟩ 0))],[(1,(ah a0))],H0⟩=some (Ck a0 u2_1 x):=
 dj (.or (bf<|bf<|bf<|bf<|bf<|bf<|bf<|bt<|.nil) (jt<|ao (.i (a0.Speak.length:Int))<|FG<|.nil)) fun L=>aM h (fun h7 h=>ai (g0 h7)<|ai (g0 h7)<|ai (g0 h7)<|ai (g0 h7)<|ai (g0 h7)<|ai (g0 h7)<|ai (g0 h7)<|ai h7<|L h) (fun h7 h=>B0 h7<|ai (ax (I) a0.Speak)<|ai (g0 h7)<|ai (g0 h7)<|ai (g0 h7)<|ai (rfl:Z0)<|ai (g0 h7)<|ai h7<|L h)
def Cl:List cK:=(gF 16 5 1)::(gQ 17 16)::(gp 18 (.ln false 17))::(gB 19 .gtr 18 (kI 16))::(gM 20 19)::⟨some 21,.fa 3 1,some ⟨20,false⟩,false⟩::⟨some 22,.ld none 21,some ⟨20,false⟩,false⟩::⟨some 23,.ln false 22,some ⟨20,false⟩,false⟩::⟨some 24,.bo .gtr false 23 (kI 5),some ⟨20,false⟩,false⟩::(gp 25 (.pk 20 (.c (.b true)) 24))::(gM 26 25)::⟨some 27,.fa 4 1,some ⟨26,false⟩,false⟩::⟨some 28,.ld none 27,some ⟨26,false⟩,false⟩::⟨some 29,.ln false 28,some ⟨26,false⟩,false⟩::⟨some 30,.bo .gtr false 29 (kI 5),some ⟨26,false⟩,false⟩::(gp 31 (.pk 26 (.c (.b true)) 30))::(gM 32 31)::⟨some 33,.fa 6 1,some ⟨32,false⟩,false⟩::⟨some 34,.ld none 33,some ⟨32,false⟩,false⟩::⟨some 35,.ln false 34,some ⟨32,false⟩,false⟩::⟨some 36,.bo .gtr false 35 (kI 5),some ⟨32,false⟩,false⟩::(gp 37 (.pk 32 (.c (.b true)) 36))::tU
def lW:Option Bool:=
 if 16<(a0.Vars.length:Int) then
  (gx a0 true).bind fun (x5:Bool)=>
  some x5
 else
  if 5<(a0.Ins.length:Int) then
   (gx a0 true).bind fun (x6:Bool)=>
   some x6
  else
   if 5<(a0.Outs.length:Int) then
    (gx a0 true).bind fun (x7:Bool)=>
    some x7
   else
    (gx a0 (decide (5<(a0.Funcs.length:Int)))).bind fun (x7:Bool)=>
    some x7
abbrev Cm(x:Bool):St:=⟨[(1,(.p ⟨0,1⟩ 0)),(46,(.b x))],[(1,(ah a0))],H0⟩
theorem AX(x:Bool)(h:lW a0=some x):ew G Ω0 E0 [1,46] [1] Cl ⟨[(1,(.p ⟨0,1⟩ 0))],[(1,(ah a0))],H0⟩=some (Cm a0 x):=
 dj (bt<|ao (.i (a0.Vars.length:Int))<|.or (Qk<|.jb (some 38) 8<|.ex fun (x5:Bool)=>ao (.jn ⟨[(1,(.p ⟨0,1⟩ 0)),(46,(.b x5))],[(1,(ah a0))],H0⟩)<|.nil) (jt<|ao (.i (a0.Ins.length:Int))<|fF<|.or (Ql<|.jb (some 38) 8<|.ex fun (x6:Bool)=>ao (.jn ⟨[(1,(.p ⟨0,1⟩ 0)),(46,(.b x6))],[(1,(ah a0))],H0⟩)<|.nil) (jt<|ao (.i (a0.Outs.length:Int))<|fF<|.or (wA<|.jb (some 38) 8<|.ex fun (x7:Bool)=>ao (.jn ⟨[(1,(.p ⟨0,1⟩ 0)),(46,(.b x7))],[(1,(ah a0))],H0⟩)<|.nil) (jt<|ao (.i (a0.Funcs.length:Int))<|fF<|.jb (some 38) 8<|.ex fun (x7:Bool)=>ao (.jn ⟨[(1,(.p ⟨0,1⟩ 0)),(46,(.b x7))],[(1,(ah a0))],H0⟩)<|.nil)))) fun L=>ai (rfl:Z0)<|ai (ax bH a0.Vars)<|bB h (fun h4 h=>ai (g0 (decide_eq_true h4))<|ai (g0 (decide_eq_true h4))<|ai (g0 (decide_eq_true h4))<|ai (g0 (decide_eq_true h4))<|ai (decide_eq_true h4)<|ai ht<|ai ht<|ai ht<|ai ht<|ai tt<|ai ht<|ai ht<|ai ht<|ai ht<|ai tt<|aB h (lf a0 true [.sk,.sk,.sk,.sk,(.b true),(.b true),.sk,.sk,.sk,.sk,(.b true),(.b true),.sk,.sk,.sk,.sk]) fun x5 h=>L h) (fun h4 h=>B0 (decide_eq_false h4)<|ai (ax ar a0.Ins)<|nX (decide_eq_false h4)<|bB h (fun h5 h=>ai (g0 (decide_eq_true h5))<|ai (g0 (decide_eq_true h5))<|ai (g0 (decide_eq_true h5))<|ai (g0 (decide_eq_true h5))<|ai (decide_eq_true h5)<|ai ht<|ai ht<|ai ht<|ai ht<|ai tt<|aB h (lf a0 true [.sk,.sk,.sk,.sk,(.b true),(.b true),.sk,.sk,.sk,.sk,(.b (decide (5<(a0.Ins.length:Int)))),(.b (decide (5<(a0.Ins.length:Int)))),(.b (decide (5<(a0.Ins.length:Int)))),(I (a0.Ins.length:Int)),(.l 89 (a0.Ins.map ar)),(.p ⟨0,1⟩ 3)]) fun x6 h=>L h) (fun h5 h=>B0 (decide_eq_false h5)<|ai (ax ar a0.Outs)<|nX (decide_eq_false h5)<|bB h (fun h6 h=>wz (decide_eq_true h6)<|aB h (lf a0 true [.sk,.sk,.sk,.sk,(.b (decide (5<(a0.Outs.length:Int)))),(.b (decide (5<(a0.Outs.length:Int)))),(.b (decide (5<(a0.Outs.length:Int)))),(I (a0.Outs.length:Int)),(.l 89 (a0.Outs.map ar)),(.p ⟨0,1⟩ 4),(.b (decide (5<(a0.Ins.length:Int)))),(.b (decide (5<(a0.Ins.length:Int)))),(.b (decide (5<(a0.Ins.length:Int)))),(I (a0.Ins.length:Int)),(.l 89 (a0.Ins.map ar)),(.p ⟨0,1⟩ 3)]) fun x7 h=>L h) (fun h6 h=>B0 (decide_eq_false h6)<|ai (ax bc a0.Funcs)<|nX (decide_eq_false h6)<|aB h (lf a0 (decide (5<(a0.Funcs.length:Int))) [(.b (decide (5<(a0.Funcs.length:Int)))),(I (a0.Funcs.length:Int)),(.l 82 (a0.Funcs.map bc)),(.p ⟨0,1⟩ 6),(.b (decide (5<(a0.Outs.length:Int)))),(.b (decide (5<(a0.Outs.length:Int)))),(.b (decide (5<(a0.Outs.length:Int)))),(I (a0.Outs.length:Int)),(.l 89 (a0.Outs.map ar)),(.p ⟨0,1⟩ 4),(.b (decide (5<(a0.Ins.length:Int)))),(.b (decide (5<(a0.Ins.length:Int)))),(.b (decide (5<(a0.Ins.length:Int)))),(I (a0.Ins.length:Int)),(.l 89 (a0.Ins.map ar)),(.p ⟨0,1⟩ 3)]) fun x7 h=>L h)))
def kF(r10:(List Label))(v0_58:Nat):Option (Nat⊕(Int⊕(Nat×Bool))):=
 if (v0_58:Int)<(r10.length:Int) then
  (r10[v0_58]?).bind fun (y13:Label)=>
  (my a0.an y13).bind fun (r15:Int)=>
  if (r15 !=0)=true then
   some (.inr (.inl r15))
  else
   if IntKind.i64.wrap ((v0_58:Int)+1)=((v0_58+1:Nat):Int) then
    some (.inl (v0_58+1))
   else none
 else
  some (.inr (.inr (v0_58,decide ((v0_58:Int)<(r10.length:Int)))))
abbrev DI(r10:(List Label))(v:Nat):St:=⟨[(1,(.e (.a (ah a0)) 0)),(56,(.l 89 (r10.map ar))),(57,(I (r10.length:Int))),(58,(I (v:Int)))],[],H0⟩
abbrev DJ(r10:(List Label))(x:(Int⊕(Nat×Bool))):aJ×St:=match x with | .inl z1=>(.ret,⟨[(2,(I z1))],[],H0⟩) | .inr (z1,z2)=>((.ex 0),⟨[(1,(.e (.a (ah a0)) 0)),(56,(.l 89 (r10.map ar))),(57,(I (r10.length:Int))),(58,(I (z1:Int))),(59,(.b z2))],[],H0⟩)
theorem Cn(r10:(List Label))(v0_58:Nat)(o:Nat⊕(Int⊕(Nat×Bool)))(h:kF a0 r10 v0_58=some o):bu E0 L0 (DI a0 r10) (DJ a0 r10) v0_58 o:=
 bD (.or (bt<|ao (.n v0_58)<|.ex fun (y13:Label)=>ao (.v (.a [(.l 134 (y13.Read.map aY)),(.l 134 (y13.Write.map aY))]))<|cR<|xI fun r15=>oN (ao (.i ((v0_58+1:Nat):Int))<|.nil)) (bf<|.nil)) fun L=>bB h (fun h12 h=>ai (decide_eq_true h12)<|ai (rI v0_58)<|ba h fun y13 h14 h=>ai (ay ar h14)<|xH<|aB h (tT a0.an y13) fun r15 h=>aM h (fun h17 h=>ai h17<|L h) (fun h17 h=>ai h17<|aA h fun w18 h=>ai w18<|L h)) (fun h12 h=>ai (decide_eq_false h12)<|L h)
def kG(v1_73:Nat):Option (Nat⊕(Int⊕(Nat×Bool))):=
 if (v1_73:Int)<(a0.Vars.length:Int) then
  (a0.Vars[v1_73]?).bind fun (y16:Var)=>
  (my a0.an y16.Label).bind fun (r18:Int)=>
  if (r18 !=0)=true then
   some (.inr (.inl r18))
  else
   if IntKind.i64.wrap ((v1_73:Int)+1)=((v1_73+1:Nat):Int) then
    some (.inl (v1_73+1))
   else none
 else
  some (.inr (.inr (v1_73,decide ((v1_73:Int)<(a0.Vars.length:Int)))))
abbrev DK(v:Nat):St:=⟨[(1,(.e (.a (ah a0)) 0)),(71,(.l 91 (a0.Vars.map bH))),(72,(I (a0.Vars.length:Int))),(73,(I (v:Int)))],[],H0⟩
abbrev DL(x:(Int⊕(Nat×Bool))):aJ×St:=match x with | .inl z1=>(.ret,⟨[(2,(I z1))],[],H0⟩) | .inr (z1,z2)=>((.ex 2),⟨[(1,(.e (.a (ah a0)) 0)),(71,(.l 91 (a0.Vars.map bH))),(72,(I (a0.Vars.length:Int))),(73,(I (z1:Int))),(74,(.b z2))],[],H0⟩)
theorem Co(v1_73:Nat)(o:Nat⊕(Int⊕(Nat×Bool)))(h:kG a0 v1_73=some o):bu E0 L1 (DK a0) (DL a0) v1_73 o:=
 bD (.or (bt<|ao (.n v1_73)<|.ex fun (y16:Var)=>ao (.v (.a (FK y16)))<|cR<|xI fun r18=>oN (ao (.i ((v1_73+1:Nat):Int))<|.nil)) (bf<|.nil)) fun L=>bB h (fun h15 h=>ai (decide_eq_true h15)<|ai (rI v1_73)<|ba h fun y16 h17 h=>ai (ay bH h17)<|xH<|aB h (tT a0.an y16.Label) fun r18 h=>aM h (fun h20 h=>ai h20<|L h) (fun h20 h=>ai h20<|aA h fun w21 h=>ai w21<|L h)) (fun h15 h=>ai (decide_eq_false h15)<|L h)
abbrev FR(a0:Program)(r:Int):bh×HP:=(.ret (I r),H0)
def pI:Option Int:=
 (nd a0.an).bind fun (r1:Int)=>
 if (r1 !=0)=true then
  some r1
 else
  (lW a0).bind fun (x4:Bool)=>
  if x4=true then
   some 2
  else
   (eA a0.Speak a0).bind fun (r7:Bool)=>
   if r7=true then
    some 5
   else
    (fe ([a0.Ins,a0.Outs])).bind fun (r10:(List Label))=>
    (lp (fun v=>kF a0 r10 v) 0).bind fun (x12:(Int⊕(Nat×Bool)))=>match x12 with
    | .inl ya_13=>
     some ya_13
    | .inr yb_13=>
     (lp (fun v=>kG a0 v) 0).bind fun (x15:(Int⊕(Nat×Bool)))=>match x15 with
     | .inl ya_16=>
      some ya_16
     | .inr yb_16=>
      (eB a0.Vars).bind fun (r18:Bool)=>
      if r18=true then
       some 1
      else
       some 0
theorem Cp(r:Int)(h:pI a0=some r):call G Ω0 E0 51 [(.a (ah a0))] H0=some (FR a0 r):=
 aO G51 (bt<|xI fun r1=>oN (.jb (some 16) 30<|.ex fun (x4:Bool)=>ao (.jn ⟨[(1,(.p ⟨0,1⟩ 0)),(46,(.b x4))],[(1,(ah a0))],H0⟩)<|oN (xB fun r7=>oN (ao (.l (([a0.Ins,a0.Outs]).map (bM 89 ar)))<|.ex fun (r10:(List Label))=>ao (.v (.l 89 (r10.map ar)))<|ao (.i (r10.length:Int))<|.or (.ex fun (ya_13:Int)=>ao (.lp .ret ⟨[(2,(I ya_13))],[],H0⟩)<|.nil) (.ex fun (yb_13:(Nat×Bool))=>ao (.lp (.ex 0) ⟨[(1,(.e (.a (ah a0)) 0)),(56,(.l 89 (r10.map ar))),(57,(I (r10.length:Int))),(58,(I (yb_13.1:Int))),(59,(.b yb_13.2))],[],H0⟩)<|ao (.i (a0.Vars.length:Int))<|.or (.ex fun (ya_16:Int)=>ao (.lp .ret ⟨[(2,(I ya_16))],[],H0⟩)<|.nil) (.ex fun (yb_16:(Nat×Bool))=>ao (.lp (.ex 2) ⟨[(1,(.e (.a (ah a0)) 0)),(71,(.l 91 (a0.Vars.map bH))),(72,(I (a0.Vars.length:Int))),(73,(I (yb_16.1:Int))),(74,(.b yb_16.2))],[],H0⟩)<|xB fun r18=>oN (.nil))))))) fun L=>pC<|aB h (zB a0.an) fun r1 h=>aM h (fun h3 h=>ai h3<|L h) (fun h3 h=>ai h3<|aB h (AX a0) fun x4 h=>aM h (fun h6 h=>ai h6<|L h) (fun h6 h=>jr h6<|aB h (lL a0.Speak a0) fun r7 h=>aM h (fun h9 h=>ai h9<|L h) (fun h9 h=>ai h9<|ai (rfl:[(.l 89 (a0.Ins.map ar)),(.l 89 (a0.Outs.map ar))]=([a0.Ins,a0.Outs]).map (bM 89 ar))<|aB h (qp ([a0.Ins,a0.Outs])) fun r10 h=>ai (ax ar r10)<|bO h (cV (Cn a0 r10) 0) (fun ya_13 h=>L h) (fun yb_13 h=>ai (ax bH a0.Vars)<|bO h (cV (Co a0) 0) (fun ya_16 h=>L h) (fun yb_16 h=>aB h (lM a0.Vars) fun r18 h=>aM h (fun h20 h=>ai h20<|L h) (fun h20 h=>ai h20<|L h))))))
end
section
variable (dp:Nat)(hp:HP)(k0:Key)
abbrev ET(dp:Nat)(hp:HP)(k0:Key)(a0:Stmt)(a1:Int)(c0:Int)(r:(Bool×Int)):bh×HP:=(.ret (.b r.1),ad hp k0 [(I r.2)])
def rE(a0:Stmt)(a1:Int)(c0:Int):Option (Bool×Int):=
 if IntKind.i64.wrap (c0+1)=c0+1 then
  if (c0+1)≤50 then
   some ((decide (a1≤6)),(c0+1))
  else
   some (false,(c0+1))
 else none
theorem AY(hk_k0:k0.dp<dp)(hz:bm dp hp)(a0:Stmt)(a1:Int)(c0:Int)(r:(Bool×Int))(h:rE a0 a1 c0=some r):call G Ω0 ⟨dp,false⟩ 83 [(.a (af a0)),(I a1),(.p k0 0)] (ad hp k0 [(I c0)])=some (ET dp hp k0 a0 a1 c0 r):=
 aO G83 (bf<|ao (.l [(I c0)])<|ao (.i (c0+1))<|bf<|ao (.l [(I c0)])<|bf<|ao (.h (ad hp k0 [(I (c0+1))]))<|bf<|ao (.l [(I (c0+1))])<|.or (cR<|.nil) (vA<|.nil)) fun L=>ai ((by simp [af,AV.aQ,AV.aN,AV.deep,AV.b6,aG hk_k0,Nat.le_of_lt hk_k0]):(((.a (af a0)):AV).deep dp&&(([(0,(.a (af a0))),(1,(I a1)),(2,(.p k0 0))]:List (Nat×AV)).all (fun y=>y.2.aQ ⟨dp,3⟩)&&([]:List (Nat×List AV)).all (fun y=>AV.aN ⟨dp,3⟩ y.2)))=true)<|ai (Nat.ne_of_lt hk_k0)<|ai (aq hp k0 [(I c0)])<|aA h fun w1 h=>ai w1<|ai ff<|ai (Nat.ne_of_lt hk_k0)<|ai (aq hp k0 [(I c0)])<|ai tt<|ai (Nat.ne_of_lt hk_k0)<|ai (aV hp k0 [(I c0)] [(I (c0+1))])<|ai (Nat.ne_of_lt hk_k0)<|ai (aq hp k0 [(I (c0+1))])<|bB h (fun h2 h=>kl (decide_eq_true h2)<|L h) (fun h2 h=>kl (decide_eq_false h2)<|L h)
end
section
variable (dp:Nat)(hp:HP)(k0:Key)(a0:(List Stmt))(a1:Int)(c0:Int)
abbrev si(dp:Nat)(hp:HP)(k0:Key)(a0:(List Stmt))(a1:Int)(c0:Int)(r:(Bool×Int)):bh×HP:=(.ret (.b r.1),ad hp k0 [(I r.2)])
abbrev im(r:(Bool×Int)):Prop:=call G Ω0 ⟨dp,false⟩ 57 [(.l 65 (a0.map au)),(I a1),(.f 83 [(.p k0 0)])] (ad hp k0 [(I c0)])=some (si dp hp k0 a0 a1 c0 r)
end
structure iq where
 f_scope_Walk__scope_few_1:(List Stmt)→Int→Int→Option (Bool×Int)
structure gJ(R:iq):Prop where
 f_scope_Walk__scope_few_1:∀ (dp:Nat)(hp:HP)(k0:Key)(hk_k0:k0.dp<dp)(hz:bm dp hp)(a0:(List Stmt))(a1:Int)(c0:Int)(r:(Bool×Int)),R.f_scope_Walk__scope_few_1 a0 a1 c0=some r→im dp hp k0 a0 a1 c0 r
section
variable (R:iq)(a0:(List Stmt))(a1:Int)(dp:Nat)(hp:HP)(k0:Key)(c0:Int)
def eQ(v0_11:Nat)(v0_k0_0:Int):Option ((Nat×Int)⊕(Int⊕(Nat×Bool×Int))):=
 if (v0_11:Int)<(a0.length:Int) then
  (a0[v0_11]?).bind fun (y2:Stmt)=>
  (rE y2 a1 v0_k0_0).bind fun (r4:(Bool×Int))=>
  if r4.1=true then
   if IntKind.i64.wrap (a1+1)=a1+1 then
    (R.f_scope_Walk__scope_few_1 y2.Then (a1+1) r4.2).bind fun (r8:(Bool×Int))=>
    if r8.1=true then
     (R.f_scope_Walk__scope_few_1 y2.Else (a1+1) r8.2).bind fun (r11:(Bool×Int))=>
     if r11.1=true then
      if IntKind.i64.wrap ((v0_11:Int)+1)=((v0_11+1:Nat):Int) then
       some (.inl (v0_11+1,r11.2))
      else none
     else
      some (.inr (.inl r11.2))
    else
     some (.inr (.inl r8.2))
   else none
  else
   some (.inr (.inl r4.2))
 else
  some (.inr (.inr (v0_11,decide ((v0_11:Int)<(a0.length:Int)),v0_k0_0)))
abbrev q7(dp:Nat)(hp:HP)(k0:Key)(a0:(List Stmt))(a1:Int)(v:(Nat×Int)):St:=⟨[(1,(I a1)),(2,(.f 83 [(.p k0 0)])),(9,(.l 65 (a0.map au))),(10,(I (a0.length:Int))),(11,(I (v.1:Int)))],[],ad hp k0 [(I v.2)]⟩
abbrev q8(dp:Nat)(hp:HP)(k0:Key)(a0:(List Stmt))(a1:Int)(x:(Int⊕(Nat×Bool×Int))):aJ×St:=match x with | .inl z1=>(.ret,⟨[(6,(.b false))],[],ad hp k0 [(I z1)]⟩) | .inr (z1,z2,z3)=>((.ex 0),⟨[(1,(I a1)),(2,(.f 83 [(.p k0 0)])),(9,(.l 65 (a0.map au))),(10,(I (a0.length:Int))),(11,(I (z1:Int))),(12,(.b z2))],[],ad hp k0 [(I z3)]⟩)
theorem qt(hR:gJ R)(dp:Nat)(hp:HP)(k0:Key)(hk_k0:k0.dp<dp)(hz:bm dp hp)(a0:(List Stmt))(a1:Int)(v0_11:Nat)(v0_k0_0:Int)(o:(Nat×Int)⊕(Int⊕(Nat×Bool×Int)))(h:eQ R a0 a1 v0_11 v0_k0_0=some o):bu ⟨dp,false⟩ Fc (q7 dp hp k0 a0 a1) (q8 dp hp k0 a0 a1) (v0_11,v0_k0_0) o:=
 bD (.or (bt<|ao (.n v0_11)<|.ex fun (y2:Stmt)=>ao (.v (.a (af y2)))<|cR<|.ex fun (r4:(Bool×Int))=>ao (.v (.b r4.1))<|ao (.h (boxes dp [(8,(af y2))] (ad hp k0 [(I r4.2)])))<|ao (.bx [(8,(af y2))])<|ao (.h (ad hp k0 [(I r4.2)]))<|.or (js<|ao (.i (a1+1))<|b5<|.ex fun (r8:(Bool×Int))=>ao (.v (.b r8.1))<|ao (.h (boxes dp [(8,(af y2))] (ad hp k0 [(I r8.2)])))<|ao (.bx [(8,(af y2))])<|ao (.h (ad hp k0 [(I r8.2)]))<|fF<|.or (js<|ao (.i (a1+1))<|b5<|.ex fun (r11:(Bool×Int))=>ao (.v (.b r11.1))<|ao (.h (boxes dp [(8,(af y2))] (ad hp k0 [(I r11.2)])))<|ao (.bx [(8,(af y2))])<|ao (.h (ad hp k0 [(I r11.2)]))<|fF<|.or (bf<|ao (.i ((v0_11+1:Nat):Int))<|.nil) (bt<|.nil)) (KB<|.nil)) (KC<|.nil)) (bf<|.nil)) fun L=>bB h (fun h1 h=>ai (decide_eq_true h1)<|ai (rI v0_11)<|ba h fun y2 h3 h=>ai (cF au h3 (ea _))<|ai ((by simp [af,AV.aQ,AV.aN,AV.deep,AV.b6,aG hk_k0,Nat.le_of_lt hk_k0]):(([(14,(.a (af y2))),(13,(.e (.a (af y2)) 0)),(1,(I a1)),(2,(.f 83 [(.p k0 0)])),(9,(.l 65 (a0.map au))),(10,(I (a0.length:Int))),(11,(I (v0_11:Int)))]:List (Nat×AV)).all (fun y=>y.2.aQ ⟨dp,8⟩)&&([]:List (Nat×List AV)).all (fun y=>AV.aN ⟨dp,8⟩ y.2))=true)<|ai ff<|ai (rN dp)<|ai tt<|ai (rN dp)<|ai (rN dp)<|gI<|ba h fun r4 ek5 h=>have ek5:=cO hk_k0 (AY (dp+1) (boxes dp [(8,(af y2))] (ad hp k0 [(I v0_k0_0)])) k0 (Nat.lt_succ_of_lt hk_k0) (a9 (aH hk_k0 (hz))) y2 a1 v0_k0_0 _ ek5);ai ek5<|ai (er ek5 (by kernel_rfl) (by kernel_rfl))<|ai (et ek5 (aH hk_k0 (hz)))<|aM h (fun h6 h=>lJ (congrArg not h6)<|ai (rN dp)<|lJ (congrArg not h6)<|aA h fun w7 h=>ai w7<|AF (congrArg not h6)<|ba h fun r8 ek9 h=>have ek9:=cO hk_k0 (hR.f_scope_Walk__scope_few_1 (dp+1) (boxes dp [(8,(af y2))] (ad hp k0 [(I r4.2)])) k0 (Nat.lt_succ_of_lt hk_k0) (a9 (aH hk_k0 (hz))) y2.Then (a1+1) r4.2 _ ek9);ai ek9<|ai (er ek9 (by kernel_rfl) (by kernel_rfl))<|ai (et ek9 (aH hk_k0 (hz)))<|nX (congrArg not h6)<|aM h (fun h10 h=>lJ (congrArg not h10)<|ai (rN dp)<|lJ (congrArg not h10)<|ai w7<|AF (congrArg not h10)<|ba h fun r11 ek12 h=>have ek12:=cO hk_k0 (hR.f_scope_Walk__scope_few_1 (dp+1) (boxes dp [(8,(af y2))] (ad hp k0 [(I r8.2)])) k0 (Nat.lt_succ_of_lt hk_k0) (a9 (aH hk_k0 (hz))) y2.Else (a1+1) r8.2 _ ek12);ai ek12<|ai (er ek12 (by kernel_rfl) (by kernel_rfl))<|ai (et ek12 (aH hk_k0 (hz)))<|nX (congrArg not h10)<|aM h (fun h13 h=>ai (congrArg not h13)<|aA h fun w14 h=>ai w14<|L h) (fun h13 h=>ai (congrArg not h13)<|L h)) (fun h10 h=>Ku (congrArg not h10)<|L h)) (fun h6 h=>Kv (congrArg not h6)<|L h)) (fun h1 h=>ai (decide_eq_false h1)<|L h)
def eY:Option (Bool×Int):=
 (lp (fun v=>eQ R a0 a1 v.1 v.2) (0,c0)).bind fun (x1:(Int⊕(Nat×Bool×Int)))=>match x1 with
 | .inl ya_2=>
  some (false,ya_2)
 | .inr yb_2=>
  some (true,yb_2.2.2)
theorem p7(hR:gJ R)(dp:Nat)(hp:HP)(k0:Key)(hk_k0:k0.dp<dp)(hz:bm dp hp)(a0:(List Stmt))(a1:Int)(c0:Int)(r:(Bool×Int))(h:eY R a0 a1 c0=some r):im dp hp k0 a0 a1 c0 r:=
 aO P0 (ao (.i (a0.length:Int))<|.or (.ex fun (ya_2:Int)=>ao (.lp .ret ⟨[(6,(.b false))],[],ad hp k0 [(I ya_2)]⟩)<|.nil) (.ex fun (yb_2:(Nat×Bool×Int))=>ao (.lp (.ex 0) ⟨[(1,(I a1)),(2,(.f 83 [(.p k0 0)])),(9,(.l 65 (a0.map au))),(10,(I (a0.length:Int))),(11,(I (yb_2.1:Int))),(12,(.b yb_2.2.1))],[],ad hp k0 [(I yb_2.2.2)]⟩)<|.nil)) fun L=>ai (ax au a0)<|bO h (cV (fun v=>qt R hR dp hp k0 hk_k0 hz a0 a1 v.1 v.2) (0,c0)) (fun ya_2 h=>L h) (fun yb_2 h=>L h)
def dh:Nat→iq
 | 0=>⟨fun z0 z1 z2=>none⟩
 | n+1=>⟨eY (dh n)⟩
theorem lB:∀ n,gJ (dh n)
 | 0=>⟨fun _ _ _ _ _ _ _ _ r h=>(by cases h)⟩
 | n+1=>⟨fun dp hp k0 hk_k0 hz a0 a1 c0 r h=>p7 _ (lB n) dp hp k0 hk_k0 hz a0 a1 c0 r h⟩
def fg:Option (Bool×Int):=ev fun n=>(dh n).f_scope_Walk__scope_few_1 a0 a1 c0
theorem kH(hk_k0:k0.dp<dp)(hz:bm dp hp)(a0:(List Stmt))(a1:Int)(c0:Int)(r:(Bool×Int))(h:fg a0 a1 c0=some r):im dp hp k0 a0 a1 c0 r:=by
 obtain ⟨n,hn⟩:=iO h
 exact (lB n).f_scope_Walk__scope_few_1 dp hp k0 hk_k0 hz a0 a1 c0 r hn
end
section
variable (a0:Program)
def oL(v0_11:Nat)(v0_3_0:Int):Option ((Nat×Int)⊕(Unit⊕(Nat×Bool×Int))):=
 if (v0_11:Int)<(a0.Funcs.length:Int) then
  (a0.Funcs[v0_11]?).bind fun (y2:Func)=>
  (fg y2.Body 1 v0_3_0).bind fun (r4:(Bool×Int))=>
  if r4.1=true then
   if IntKind.i64.wrap ((v0_11:Int)+1)=((v0_11+1:Nat):Int) then
    some (.inl (v0_11+1,r4.2))
   else none
  else
   some (.inr (.inl ()))
 else
  some (.inr (.inr (v0_11,decide ((v0_11:Int)<(a0.Funcs.length:Int)),v0_3_0)))
abbrev EU(v:(Nat×Int)):St:=⟨[(1,(.p ⟨0,1⟩ 0)),(4,(.f 83 [(.p ⟨0,3⟩ 0)])),(9,(.l 82 (a0.Funcs.map bc))),(10,(I (a0.Funcs.length:Int))),(11,(I (v.1:Int)))],[(1,(ah a0)),(3,[(I v.2)])],H0⟩
abbrev EV(x:(Unit⊕(Nat×Bool×Int))):aJ×St:=match x with | .inl ()=>(.ret,⟨[(2,(.b false))],[],H0⟩) | .inr (z1,z2,z3)=>((.ex 0),⟨[(1,(.p ⟨0,1⟩ 0)),(4,(.f 83 [(.p ⟨0,3⟩ 0)])),(9,(.l 82 (a0.Funcs.map bc))),(10,(I (a0.Funcs.length:Int))),(11,(I (z1:Int))),(12,(.b z2))],[(1,(ah a0)),(3,[(I z3)])],H0⟩)
theorem DM(v0_11:Nat)(v0_3_0:Int)(o:(Nat×Int)⊕(Unit⊕(Nat×Bool×Int)))(h:oL a0 v0_11 v0_3_0=some o):bu E0 L2 (EU a0) (EV a0) (v0_11,v0_3_0) o:=
 bD (.or (bt<|ao (.n v0_11)<|.ex fun (y2:Func)=>ao (.v (.a (bL y2)))<|cR<|.ex fun (r4:(Bool×Int))=>ao (.v (.b r4.1))<|ao (.h (boxes 0 [(1,(ah a0)),(3,[(I r4.2)]),(6,(bL y2))] H0))<|ao (.bx [(1,(ah a0)),(3,[(I r4.2)]),(6,(bL y2))])<|ao (.h (H0))<|.or (bf<|ao (.i ((v0_11+1:Nat):Int))<|.nil) (bt<|.nil)) (bf<|.nil)) fun L=>bB h (fun h1 h=>ai (decide_eq_true h1)<|ai (rI v0_11)<|ba h fun y2 h3 h=>ai (ay bc h3)<|ai tt<|ai ff<|ai (rfl:Z0)<|ai tt<|ai (rfl:Z0)<|ai (rfl:Z0)<|ai ff<|ai tt<|ba h fun r4 ek5 h=>have ek5:call G Ω0 ⟨0+1,false⟩ 57 [(.l 65 (y2.Body.map au)),(I 1),(.f 83 [(.p ⟨0,3⟩ 0)])] (boxes 0 [(1,(ah a0)),(3,[(I v0_3_0)]),(6,(bL y2))] H0)=some (.ret (.b r4.1),boxes 0 [(1,(ah a0)),(3,[(I r4.2)]),(6,(bL y2))] H0):=ey (cY (bx1:=[(1,(ah a0)),(3,[(I v0_3_0)]),(6,(bL y2))]) (by kernel_rfl) (by kernel_rfl)) (cY (bx1:=[(1,(ah a0)),(3,[(I r4.2)]),(6,(bL y2))]) (by kernel_rfl) (by kernel_rfl)) (kH (0+1) (boxes 0 [(1,(ah a0)),(3,[(I v0_3_0)]),(6,(bL y2))] H0) ⟨0,3⟩ (Nat.lt_succ_self 0) (a9 (dw 0)) y2.Body 1 v0_3_0 _ ek5);ai ek5<|ai (er ek5 (by kernel_rfl) (by kernel_rfl))<|ai (et ek5 (dw 0))<|aM h (fun h6 h=>ai (congrArg not h6)<|aA h fun w7 h=>ai w7<|L h) (fun h6 h=>ai (congrArg not h6)<|L h)) (fun h1 h=>ai (decide_eq_false h1)<|L h)
abbrev Hg(a0:Program)(r:Bool):bh×HP:=(.ret (.b r),H0)
def qJ:Option Bool:=
 (lp (fun v=>oL a0 v.1 v.2) (0,0)).bind fun (x1:(Unit⊕(Nat×Bool×Int)))=>match x1 with
 | .inl ya_2=>
  some false
 | .inr yb_2=>
  (fg a0.Main 1 yb_2.2.2).bind fun (r4:(Bool×Int))=>
  some r4.1
theorem DN(r:Bool)(h:qJ a0=some r):call G Ω0 E0 52 [(.a (ah a0))] H0=some (Hg a0 r):=
 aO G52 (cR<|ao (.i (a0.Funcs.length:Int))<|.or (.ex fun (ya_2:Unit)=>ao (.lp .ret ⟨[(2,(.b false))],[],H0⟩)<|.nil) (.ex fun (yb_2:(Nat×Bool×Int))=>ao (.lp (.ex 0) ⟨[(1,(.p ⟨0,1⟩ 0)),(4,(.f 83 [(.p ⟨0,3⟩ 0)])),(9,(.l 82 (a0.Funcs.map bc))),(10,(I (a0.Funcs.length:Int))),(11,(I (yb_2.1:Int))),(12,(.b yb_2.2.1))],[(1,(ah a0)),(3,[(I yb_2.2.2)])],H0⟩)<|bt<|.ex fun (r4:(Bool×Int))=>ao (.v (.b r4.1))<|ao (.h (boxes 0 [(1,(ah a0)),(3,[(I r4.2)])] H0))<|ao (.bx [(1,(ah a0)),(3,[(I r4.2)])])<|ao (.h (H0))<|.nil)) fun L=>ai tt<|ai tt<|ai ff<|ai (rfl:Z0)<|ai tt<|ai (rfl:Z0)<|ai (rfl:Z0)<|ai (ax bc a0.Funcs)<|bO h (cV (fun v=>DM a0 v.1 v.2) (0,0)) (fun ya_2 h=>L h) (fun yb_2 h=>ai (rfl:Z0)<|ai ff<|ai tt<|ba h fun r4 ek5 h=>have ek5:call G Ω0 ⟨0+1,false⟩ 57 [(.l 65 (a0.Main.map au)),(I 1),(.f 83 [(.p ⟨0,3⟩ 0)])] (boxes 0 [(1,(ah a0)),(3,[(I yb_2.2.2)])] H0)=some (.ret (.b r4.1),boxes 0 [(1,(ah a0)),(3,[(I r4.2)])] H0):=ey (cY (bx1:=[(1,(ah a0)),(3,[(I yb_2.2.2)])]) (by kernel_rfl) (by kernel_rfl)) (cY (bx1:=[(1,(ah a0)),(3,[(I r4.2)])]) (by kernel_rfl) (by kernel_rfl)) (kH (0+1) (boxes 0 [(1,(ah a0)),(3,[(I yb_2.2.2)])] H0) ⟨0,3⟩ (Nat.lt_succ_self 0) (a9 (dw 0)) a0.Main 1 yb_2.2.2 _ ek5);ai ek5<|ai (er ek5 (by kernel_rfl) (by kernel_rfl))<|ai (et ek5 (dw 0))<|L h)
end
section
variable (a0:(List Int))(a1:Int)
def ir(v0_8:Nat):Option (Nat⊕(Nat⊕(Nat×Bool))):=
 if (v0_8:Int)<(a0.length:Int) then
  (a0[v0_8]?).bind fun (y2:Int)=>
  if (a1==y2)=true then
   some (.inr (.inl v0_8))
  else
   if IntKind.i64.wrap ((v0_8:Int)+1)=((v0_8+1:Nat):Int) then
    some (.inl (v0_8+1))
   else none
 else
  some (.inr (.inr (v0_8,decide ((v0_8:Int)<(a0.length:Int)))))
abbrev vD(v:Nat):St:=⟨[(0,(.l 3 (a0.map (I)))),(1,(I a1)),(7,(I (a0.length:Int))),(8,(I (v:Int)))],[],H0⟩
abbrev vE(x:(Nat⊕(Nat×Bool))):aJ×St:=match x with | .inl z1=>(.ret,⟨[(4,(I (z1:Int)))],[],H0⟩) | .inr (z1,z2)=>((.ex 0),⟨[(0,(.l 3 (a0.map (I)))),(1,(I a1)),(7,(I (a0.length:Int))),(8,(I (z1:Int))),(9,(.b z2))],[],H0⟩)
theorem uR(v0_8:Nat)(o:Nat⊕(Nat⊕(Nat×Bool)))(h:ir a0 a1 v0_8=some o):bu E0 Mp (vD a0 a1) (vE a0 a1) v0_8 o:=
 bD (.or (bt<|ao (.n v0_8)<|xI fun y2=>oN (ao (.i ((v0_8+1:Nat):Int))<|.nil)) (bf<|.nil)) fun L=>bB h (fun h1 h=>ai (decide_eq_true h1)<|ai (rI v0_8)<|ba h fun y2 h3 h=>ai (ay (I) h3)<|aM h (fun h4 h=>ai h4<|L h) (fun h4 h=>ai h4<|aA h fun w5 h=>ai w5<|L h)) (fun h1 h=>ai (decide_eq_false h1)<|L h)
abbrev xP(a0:(List Int))(a1:Int)(r:Int):bh×HP:=(.ret (I r),H0)
def mz:Option Int:=
 (lp (fun v=>ir a0 a1 v) 0).bind fun (x1:(Nat⊕(Nat×Bool)))=>match x1 with
 | .inl ya_2=>
  some (ya_2:Int)
 | .inr yb_2=>
  some (-1)
theorem uS(r:Int)(h:mz a0 a1=some r):call G Ω0 E0 99 [(.l 3 (a0.map (I))),(I a1)] H0=some (xP a0 a1 r):=
 aO G99 (ao (.i (a0.length:Int))<|.or (.ex fun (ya_2:Nat)=>ao (.lp .ret ⟨[(4,(I (ya_2:Int)))],[],H0⟩)<|.nil) (.ex fun (yb_2:(Nat×Bool))=>ao (.lp (.ex 0) ⟨[(0,(.l 3 (a0.map (I)))),(1,(I a1)),(7,(I (a0.length:Int))),(8,(I (yb_2.1:Int))),(9,(.b yb_2.2))],[],H0⟩)<|.nil)) fun L=>ai (ax (I) a0)<|bO h (cV (uR a0 a1) 0) (fun ya_2 h=>L h) (fun yb_2 h=>L h)
abbrev uT(a0:(List Int))(a1:Int)(r:Bool):bh×HP:=(.ret (.b r),H0)
def gy:Option Bool:=
 (mz a0 a1).bind fun (r1:Int)=>
 some (decide (0≤r1))
theorem sR(r:Bool)(h:gy a0 a1=some r):call G Ω0 E0 84 [(.l 3 (a0.map (I))),(I a1)] H0=some (uT a0 a1 r):=
 aO G84 (xI fun r1=>.nil) fun L=>aB h (uS a0 a1) fun r1 h=>L h
end
section
variable (a0:Int)(dp:Nat)(hp:HP)(k0:Key)(c0:Checker)
abbrev EW(a0:Int)(r:(Bool×Bool×Bool)):bh×HP:=(.ret (.tp [(.b r.1),(.b r.2.1),(.b r.2.2)]),H0)
def oM:Option (Bool×Bool×Bool):=
 if (a0 !=4)=true then
  if 2≤a0 then
   if (a0 !=2)=true then
    some ((decide (a0<7)),(decide (a0≤4)),(a0 !=3))
   else
    some ((decide (a0<7)),(decide (a0≤4)),false)
  else
   if (a0 !=2)=true then
    some ((decide (a0<7)),false,(a0 !=3))
   else
    some ((decide (a0<7)),false,false)
 else
  if 2≤a0 then
   if (a0 !=2)=true then
    some (false,(decide (a0≤4)),(a0 !=3))
   else
    some (false,(decide (a0≤4)),false)
  else
   if (a0 !=2)=true then
    some (false,false,(a0 !=3))
   else
    some (false,false,false)
theorem AZ(r:(Bool×Bool×Bool))(h:oM a0=some r):call G Ω0 E0 100 [(I a0)] H0=some (EW a0 r):=
 aO aav (.or (cR<|.or (cR<|.or (cR<|.nil) (vA<|.nil)) (vA<|.or (cR<|.nil) (vA<|.nil))) (vA<|.or (cR<|.or (cR<|.nil) (vA<|.nil)) (vA<|.or (cR<|.nil) (vA<|.nil)))) fun L=>aM h (fun h1 h=>kl h1<|bB h (fun h2 h=>kl (decide_eq_true h2)<|aM h (fun h3 h=>kl h3<|L h) (fun h3 h=>kl h3<|L h)) (fun h2 h=>kl (decide_eq_false h2)<|aM h (fun h3 h=>kl h3<|L h) (fun h3 h=>kl h3<|L h))) (fun h1 h=>kl h1<|bB h (fun h2 h=>kl (decide_eq_true h2)<|aM h (fun h3 h=>kl h3<|L h) (fun h3 h=>kl h3<|L h)) (fun h2 h=>kl (decide_eq_false h2)<|aM h (fun h3 h=>kl h3<|L h) (fun h3 h=>kl h3<|L h)))
abbrev uu(dp:Nat)(hp:HP)(k0:Key)(c0:Checker)(a0:Int)(r:Int):bh×HP:=(.ret (I r),ad hp k0 (ak c0))
def gb(a0:Int):Option Int:=
 if (a0==2)=true then
  some c0.funcs
 else
  if (a0==3)=true then
   some (c0.p.Ins.length:Int)
  else
   some (c0.p.Outs.length:Int)
theorem sj(hk_k0:k0.dp<dp)(hz:bm dp hp)(c0:Checker)(a0:Int)(r:Int)(h:gb c0 a0=some r):call G Ω0 ⟨dp,true⟩ 101 [(.p k0 0),(I a0)] (ad hp k0 (ak c0))=some (uu dp hp k0 c0 a0 r):=
 aO aaw (.or (fF<|ao (.l (ak c0))<|.nil) (bf<|.or (fF<|ao (.l (ak c0))<|ao (.i (c0.p.Ins.length:Int))<|.nil) (bf<|bf<|ao (.l (ak c0))<|ao (.i (c0.p.Outs.length:Int))<|.nil))) fun L=>aM h (fun h1 h=>ai h1<|ai (Nat.ne_of_lt hk_k0)<|ai (aq hp k0 (ak c0))<|L h) (fun h1 h=>ai h1<|aM h (fun h2 h=>ai h2<|ai (Nat.ne_of_lt hk_k0)<|ai (aq hp k0 (ak c0))<|ai (ax ar c0.p.Ins)<|L h) (fun h2 h=>ai h2<|ai (Nat.ne_of_lt hk_k0)<|ai (aq hp k0 (ak c0))<|ai (ax ar c0.p.Outs)<|L h))
def nR:List cK:=(gA 10 47)::[]
end
section
variable (c0:Checker)(a0:Stmt)(dp:Nat)(hp:HP)(k0:Key)
def eH(c0:Checker)(a0:Stmt)(r3:(Bool×Bool×Bool))(u2_1:Bool):Option Bool:=
 some u2_1
abbrev tu(c0:Checker)(a0:Stmt)(r3:(Bool×Bool×Bool))(u2_1:Bool)(x:Bool):St:=⟨[(0,(.p k0 0)),(3,(.p ⟨dp,3⟩ 0)),(5,(I a0.Kind)),(6,(.b r3.1)),(7,(.b r3.2.1)),(8,(.b r3.2.2)),(9,(.b (decide (7≤a0.Kind)))),(10,(.b x))],[(3,(af a0))],ad hp k0 (ak c0)⟩
theorem iZ(hk_k0:k0.dp<dp)(hz:bm dp hp)(c0:Checker)(a0:Stmt)(r3:(Bool×Bool×Bool))(u2_1:Bool)(w:List AV)(x:Bool)(h:eH c0 a0 r3 u2_1=some x):ew G Ω0 ⟨dp,false⟩ [0,3,5,6,7,8,9,10] [0,3] nR ⟨[(47,(.b u2_1)),(46,(W w 0)),(45,(W w 1)),(44,(W w 2)),(43,(W w 3)),(42,(W w 4)),(41,(W w 5)),(40,(W w 6)),(39,(W w 7)),(38,(W w 8)),(37,(W w 9)),(36,(W w 10)),(35,(.b (a0.Expr.Kind==0))),(34,(.b (a0.Expr.Kind==0))),(33,(I a0.Expr.Kind)),(32,(.p ⟨dp,3⟩ 3)),(31,(.p ⟨dp,3⟩ 3)),(0,(.p k0 0)),(3,(.p ⟨dp,3⟩ 0)),(5,(I a0.Kind)),(6,(.b r3.1)),(7,(.b r3.2.1)),(8,(.b r3.2.2)),(9,(.b (decide (7≤a0.Kind))))],[(3,(af a0))],ad hp k0 (ak c0)⟩=some (tu dp hp k0 c0 a0 r3 u2_1 x):=
 dj (.nil) fun L=>L h
def tv:List cK:=(gF 31 3 3)::(gF 32 0 31)::(gQ 33 32)::(gB 34 .eql 33 (kI 0))::(gM 35 34)::⟨some 36,.fa 3 3,some ⟨35,true⟩,false⟩::⟨some 37,.fa 1 36,some ⟨35,true⟩,false⟩::⟨some 38,.ld none 37,some ⟨35,true⟩,false⟩::⟨some 39,.bo .eql false 38 (kI 0),some ⟨35,true⟩,false⟩::(gp 40 (.pk 35 39 (.c (.b false))))::(gM 41 40)::⟨some 42,.fa 3 3,some ⟨41,true⟩,false⟩::⟨some 43,.fa 2 42,some ⟨41,true⟩,false⟩::⟨some 44,.ld none 43,some ⟨41,true⟩,false⟩::⟨some 45,.ln false 44,some ⟨41,true⟩,false⟩::⟨some 46,.bo .eql false 45 (kI 0),some ⟨41,true⟩,false⟩::(gp 47 (.pk 41 46 (.c (.b false))))::nR
def fI(r3:(Bool×Bool×Bool)):Option Bool:=
 if (a0.Expr.Kind==0)=true then
  if (a0.Expr.N==0)=true then
   (eH c0 a0 r3 ((a0.Expr.Args.length:Int)==0)).bind fun (x7:Bool)=>
   some x7
  else
   (eH c0 a0 r3 false).bind fun (x7:Bool)=>
   some x7
 else
  (eH c0 a0 r3 false).bind fun (x6:Bool)=>
  some x6
abbrev tw(c0:Checker)(a0:Stmt)(r3:(Bool×Bool×Bool))(x:Bool):St:=⟨[(0,(.p k0 0)),(3,(.p ⟨dp,3⟩ 0)),(5,(I a0.Kind)),(6,(.b r3.1)),(7,(.b r3.2.1)),(8,(.b r3.2.2)),(9,(.b (decide (7≤a0.Kind)))),(10,(.b x))],[(3,(af a0))],ad hp k0 (ak c0)⟩
theorem sS(hk_k0:k0.dp<dp)(hz:bm dp hp)(c0:Checker)(a0:Stmt)(r3:(Bool×Bool×Bool))(x:Bool)(h:fI c0 a0 r3=some x):ew G Ω0 ⟨dp,false⟩ [0,3,5,6,7,8,9,10] [0,3] tv ⟨[(0,(.p k0 0)),(3,(.p ⟨dp,3⟩ 0)),(5,(I a0.Kind)),(6,(.b r3.1)),(7,(.b r3.2.1)),(8,(.b r3.2.2)),(9,(.b (decide (7≤a0.Kind))))],[(3,(af a0))],ad hp k0 (ak c0)⟩=some (tw dp hp k0 c0 a0 r3 x):=
 dj (bt<|.or (FF<|.or (js<|ao (.i (a0.Expr.Args.length:Int))<|b5<|.jb (some 10) 0<|.ex fun (x7:Bool)=>ao (.jn ⟨[(0,(.p k0 0)),(3,(.p ⟨dp,3⟩ 0)),(5,(I a0.Kind)),(6,(.b r3.1)),(7,(.b r3.2.1)),(8,(.b r3.2.2)),(9,(.b (decide (7≤a0.Kind)))),(10,(.b x7))],[(3,(af a0))],ad hp k0 (ak c0)⟩)<|.nil) (FH<|.jb (some 10) 0<|.ex fun (x7:Bool)=>ao (.jn ⟨[(0,(.p k0 0)),(3,(.p ⟨dp,3⟩ 0)),(5,(I a0.Kind)),(6,(.b r3.1)),(7,(.b r3.2.1)),(8,(.b r3.2.2)),(9,(.b (decide (7≤a0.Kind)))),(10,(.b x7))],[(3,(af a0))],ad hp k0 (ak c0)⟩)<|.nil)) (KA<|.jb (some 10) 0<|.ex fun (x6:Bool)=>ao (.jn ⟨[(0,(.p k0 0)),(3,(.p ⟨dp,3⟩ 0)),(5,(I a0.Kind)),(6,(.b r3.1)),(7,(.b r3.2.1)),(8,(.b r3.2.2)),(9,(.b (decide (7≤a0.Kind)))),(10,(.b x6))],[(3,(af a0))],ad hp k0 (ak c0)⟩)<|.nil)) fun L=>ai (rN dp)<|aM h (fun h5 h=>Ey h5<|ai (rN dp)<|vz h5<|aM h (fun h6 h=>Ey h6<|ai (rN dp)<|ai (g1 h6)<|ai (ax aD a0.Expr.Args)<|vz h6<|aB h (iZ dp hp k0 hk_k0 hz c0 a0 r3 ((a0.Expr.Args.length:Int)==0) [(.b ((a0.Expr.Args.length:Int)==0)),(I (a0.Expr.Args.length:Int)),(.l 63 (a0.Expr.Args.map aD)),(.p ⟨dp,3⟩ 5),(.p ⟨dp,3⟩ 3),(.b (a0.Expr.N==0)),(.b (a0.Expr.N==0)),(.b (a0.Expr.N==0)),(I a0.Expr.N),(.p ⟨dp,3⟩ 4),(.p ⟨dp,3⟩ 3)]) fun x7 h=>L h) (fun h6 h=>IK h6<|aB h (iZ dp hp k0 hk_k0 hz c0 a0 r3 false [.sk,.sk,.sk,.sk,.sk,(.b (a0.Expr.N==0)),(.b (a0.Expr.N==0)),(.b (a0.Expr.N==0)),(I a0.Expr.N),(.p ⟨dp,3⟩ 4),(.p ⟨dp,3⟩ 3)]) fun x7 h=>L h)) (fun h5 h=>ai (g1 h5)<|ai (g1 h5)<|ai (g1 h5)<|ai (g1 h5)<|ai h5<|ai gf<|ai gf<|ai gf<|ai gf<|ai gf<|ai ff<|aB h (iZ dp hp k0 hk_k0 hz c0 a0 r3 false [.sk,.sk,.sk,.sk,.sk,(.b false),(.b false),.sk,.sk,.sk,.sk]) fun x6 h=>L h)
def nS:List cp:=gH (gA 48 81)::[]
def dD(c0:Checker)(a0:Stmt)(r3:(Bool×Bool×Bool))(x5:Bool)(u4_1:Bool)(u5_1:Bool):Option Bool:=
 some u5_1
abbrev tz(c0:Checker)(a0:Stmt)(r3:(Bool×Bool×Bool))(x5:Bool)(u4_1:Bool)(u5_1:Bool)(x:Bool):St:=⟨[(0,(.p k0 0)),(3,(.p ⟨dp,3⟩ 0)),(5,(I a0.Kind)),(6,(.b r3.1)),(7,(.b r3.2.1)),(8,(.b r3.2.2)),(9,(.b (decide (7≤a0.Kind)))),(10,(.b x5)),(48,(.b x))],[(3,(af a0))],ad hp k0 (ak c0)⟩
theorem fq(hk_k0:k0.dp<dp)(hz:bm dp hp)(c0:Checker)(a0:Stmt)(r3:(Bool×Bool×Bool))(x5:Bool)(u4_1:Bool)(u5_1:Bool)(w:List AV)(x:Bool)(h:dD c0 a0 r3 x5 u4_1 u5_1=some x):vu G Ω0 ⟨dp,false⟩ [0,3,5,6,7,8,9,10,48] [0,3] nS ⟨[(81,(.b u5_1)),(80,(W w 0)),(79,(W w 1)),(78,(W w 2)),(77,(W w 3)),(76,(W w 4)),(75,(W w 5)),(74,(W w 6)),(73,(W w 7)),(72,(W w 8)),(71,(W w 9)),(70,(W w 10)),(69,(W w 11)),(68,(W w 12)),(67,(W w 13)),(66,(.b u4_1)),(65,(.b u4_1)),(64,(W w 14)),(63,(W w 15)),(62,(W w 16)),(61,(W w 17)),(60,(W w 18)),(59,(W w 19)),(58,(W w 20)),(57,(W w 21)),(56,(W w 22)),(55,(W w 23)),(54,(W w 24)),(53,(W w 25)),(52,(W w 26)),(51,(W w 27)),(50,(.b r3.1)),(49,(.b r3.1)),(0,(.p k0 0)),(3,(.p ⟨dp,3⟩ 0)),(5,(I a0.Kind)),(6,(.b r3.1)),(7,(.b r3.2.1)),(8,(.b r3.2.2)),(9,(.b (decide (7≤a0.Kind)))),(10,(.b x5))],[(3,(af a0))],ad hp k0 (ak c0)⟩=some (tz dp hp k0 c0 a0 r3 x5 u4_1 u5_1 x):=
 FB (.nil) fun L=>L h
def nT:List cp:=gL (gM 66 65) [65] []::⟨⟨some 67,.mv 7,some ⟨66,false⟩,false⟩,true,[7],[],false,[],[],[]⟩::⟨⟨some 68,.mv 67,some ⟨66,false⟩,false⟩,true,[67],[],false,[],[],[]⟩::⟨⟨some 69,.fa 2 3,some ⟨68,true⟩,false⟩,true,[3],[],false,[],[],[]⟩::⟨⟨some 70,.ld none 69,some ⟨68,true⟩,false⟩,true,[69],[3],false,[],[],[]⟩::⟨⟨some 71,.bo .lss false 70 (kI 0),some ⟨68,true⟩,false⟩,true,[70],[],false,[],[],[]⟩::⟨⟨some 72,.mv 71,some ⟨68,true⟩,false⟩,true,[71],[],false,[],[],[]⟩::⟨⟨some 73,.fa 2 3,some ⟨72,false⟩,false⟩,true,[3],[],false,[],[],[]⟩::⟨⟨some 74,.ld none 73,some ⟨72,false⟩,false⟩,true,[73],[3],false,[],[],[]⟩::⟨⟨some 75,.mv 0,some ⟨72,false⟩,false⟩,true,[0],[],false,[],[],[]⟩::⟨⟨some 76,.mv 5,some ⟨72,false⟩,false⟩,true,[5],[],false,[],[],[]⟩::⟨⟨some 77,.c3 101 [75,76],some ⟨72,false⟩,false⟩,true,[75,76],[],true,[],[],[]⟩::⟨⟨some 78,.bo .geq false 74 77,some ⟨72,false⟩,false⟩,false,[],[],false,[],[],[]⟩::⟨⟨some 79,.pk 72 (.c (.b true)) 78,some ⟨68,true⟩,false⟩,false,[],[],false,[],[],[]⟩::⟨⟨some 80,.pk 68 79 (.c (.b false)),some ⟨66,false⟩,false⟩,false,[],[],false,[],[],[]⟩::gH (gp 81 (.pk 66 (.c (.b true)) 80))::nS
def dE(r3:(Bool×Bool×Bool))(x5:Bool)(u4_1:Bool):Option Bool:=
 if u4_1=true then
  (dD c0 a0 r3 x5 u4_1 true).bind fun (x10:Bool)=>
  some x10
 else
  if r3.2.1=true then
   if a0.Other<0 then
    (dD c0 a0 r3 x5 u4_1 true).bind fun (x12:Bool)=>
    some x12
   else
    (gb c0 a0.Kind).bind fun (r12:Int)=>
    (dD c0 a0 r3 x5 u4_1 (decide (r12≤a0.Other))).bind fun (x14:Bool)=>
    some x14
  else
   (dD c0 a0 r3 x5 u4_1 false).bind fun (x11:Bool)=>
   some x11
abbrev tA(c0:Checker)(a0:Stmt)(r3:(Bool×Bool×Bool))(x5:Bool)(u4_1:Bool)(x:Bool):St:=⟨[(0,(.p k0 0)),(3,(.p ⟨dp,3⟩ 0)),(5,(I a0.Kind)),(6,(.b r3.1)),(7,(.b r3.2.1)),(8,(.b r3.2.2)),(9,(.b (decide (7≤a0.Kind)))),(10,(.b x5)),(48,(.b x))],[(3,(af a0))],ad hp k0 (ak c0)⟩
theorem ja(hk_k0:k0.dp<dp)(hz:bm dp hp)(c0:Checker)(a0:Stmt)(r3:(Bool×Bool×Bool))(x5:Bool)(u4_1:Bool)(w:List AV)(x:Bool)(h:dE c0 a0 r3 x5 u4_1=some x):vu G Ω0 ⟨dp,false⟩ [0,3,5,6,7,8,9,10,48] [0,3] nT ⟨[(65,(.b u4_1)),(64,(W w 0)),(63,(W w 1)),(62,(W w 2)),(61,(W w 3)),(60,(W w 4)),(59,(W w 5)),(58,(W w 6)),(57,(W w 7)),(56,(W w 8)),(55,(W w 9)),(54,(W w 10)),(53,(W w 11)),(52,(W w 12)),(51,(W w 13)),(50,(.b r3.1)),(49,(.b r3.1)),(0,(.p k0 0)),(3,(.p ⟨dp,3⟩ 0)),(5,(I a0.Kind)),(6,(.b r3.1)),(7,(.b r3.2.1)),(8,(.b r3.2.2)),(9,(.b (decide (7≤a0.Kind)))),(10,(.b x5))],[(3,(af a0))],ad hp k0 (ak c0)⟩=some (tA dp hp k0 c0 a0 r3 x5 u4_1 x):=
 FB (.or (bf<|bf<|bf<|bt<|.jb (some 48) 0<|.ex fun (x10:Bool)=>ao (.jn ⟨[(0,(.p k0 0)),(3,(.p ⟨dp,3⟩ 0)),(5,(I a0.Kind)),(6,(.b r3.1)),(7,(.b r3.2.1)),(8,(.b r3.2.2)),(9,(.b (decide (7≤a0.Kind)))),(10,(.b x5)),(48,(.b x10))],[(3,(af a0))],ad hp k0 (ak c0)⟩)<|.nil) (b5<|.or (js<|.or (bf<|bf<|bf<|bf<|bf<|bf<|bt<|bt<|bt<|bt<|bf<|.jb (some 48) 0<|.ex fun (x12:Bool)=>ao (.jn ⟨[(0,(.p k0 0)),(3,(.p ⟨dp,3⟩ 0)),(5,(I a0.Kind)),(6,(.b r3.1)),(7,(.b r3.2.1)),(8,(.b r3.2.2)),(9,(.b (decide (7≤a0.Kind)))),(10,(.b x5)),(48,(.b x12))],[(3,(af a0))],ad hp k0 (ak c0)⟩)<|.nil) (FF<|xI fun r12=>ao (.h (boxes dp [] (ad hp k0 (ak c0))))<|bt<|bt<|bf<|bt<|bt<|bf<|.jb (some 48) 0<|.ex fun (x14:Bool)=>ao (.jn ⟨[(0,(.p k0 0)),(3,(.p ⟨dp,3⟩ 0)),(5,(I a0.Kind)),(6,(.b r3.1)),(7,(.b r3.2.1)),(8,(.b r3.2.2)),(9,(.b (decide (7≤a0.Kind)))),(10,(.b x5)),(48,(.b x14))],[(3,(af a0))],ad hp k0 (ak c0)⟩)<|.nil)) (bf<|bf<|bf<|bf<|bf<|bt<|bf<|bf<|.jb (some 48) 0<|.ex fun (x11:Bool)=>ao (.jn ⟨[(0,(.p k0 0)),(3,(.p ⟨dp,3⟩ 0)),(5,(I a0.Kind)),(6,(.b r3.1)),(7,(.b r3.2.1)),(8,(.b r3.2.2)),(9,(.b (decide (7≤a0.Kind)))),(10,(.b x5)),(48,(.b x11))],[(3,(af a0))],ad hp k0 (ak c0)⟩)<|.nil))) fun L=>ai tt<|aM h (fun h9 h=>ai (g0 h9)<|ai (g0 h9)<|ai (g0 h9)<|ai h9<|aB h (fq dp hp k0 hk_k0 hz c0 a0 r3 x5 u4_1 true [.sk,.sk,.sk,.sk,.sk,.sk,.sk,.sk,.sk,.sk,.sk,.sk,.sk,.sk,(W w 0),(W w 1),(W w 2),(W w 3),(W w 4),(W w 5),(W w 6),(W w 7),(W w 8),(W w 9),(W w 10),(W w 11),(W w 12),(W w 13)]) fun x10 h=>L h) (fun h9 h=>ai (g0 h9)<|ai tt<|ai (g0 h9)<|ai tt<|aM h (fun h10 h=>ai (g1 h10)<|ai tt<|ai (g1 h10)<|ai (rN dp)<|ai tt<|ai (g1 h10)<|ai tt<|ai (g1 h10)<|ai tt<|bB h (fun h11 h=>ai (g0 (decide_eq_true h11))<|ai (g0 (decide_eq_true h11))<|ai (g0 (decide_eq_true h11))<|ai (g0 (decide_eq_true h11))<|ai (g0 (decide_eq_true h11))<|ai (g0 (decide_eq_true h11))<|ai (g1 h10)<|ai (decide_eq_true h11)<|ai (g0 h9)<|ai h10<|ai h9<|aB h (fq dp hp k0 hk_k0 hz c0 a0 r3 x5 u4_1 true [(.b true),(.b true),.sk,.sk,.sk,.sk,.sk,.sk,(.b (decide (a0.Other<0))),(.b (decide (a0.Other<0))),(I a0.Other),(.p ⟨dp,3⟩ 2),(.b r3.2.1),(.b r3.2.1),(W w 0),(W w 1),(W w 2),(W w 3),(W w 4),(W w 5),(W w 6),(W w 7),(W w 8),(W w 9),(W w 10),(W w 11),(W w 12),(W w 13)]) fun x12 h=>L h) (fun h11 h=>ai (g0 (decide_eq_false h11))<|ai tt<|ai (g0 (decide_eq_false h11))<|ai (rN dp)<|ai tt<|ai (g0 (decide_eq_false h11))<|ai tt<|ai (g0 (decide_eq_false h11))<|ai tt<|ai (g0 (decide_eq_false h11))<|ai tt<|ba h fun r12 ek13 h=>have ek13:call G Ω0 ⟨dp+1,true⟩ 101 [(.p k0 0),(I a0.Kind)] (boxes dp [] (ad hp k0 (ak c0)))=some (.ret (I r12),boxes dp [] (ad hp k0 (ak c0))):=ey (bZ (hp1:=ad hp k0 (ak c0)) (Nat.ne_of_lt hk_k0) (aV ..)) (bZ (hp1:=ad hp k0 (ak c0)) (Nat.ne_of_lt hk_k0) (aV ..)) (sj (dp+1) (boxes dp [] (ad hp k0 (ak c0))) k0 (Nat.lt_succ_of_lt hk_k0) (a9 (aH hk_k0 (hz))) c0 a0.Kind _ ek13);ai ek13<|ai tt<|ai (g0 (decide_eq_false h11))<|ai (g1 h10)<|ai (decide_eq_false h11)<|ai (g0 h9)<|ai h10<|ai h9<|aB h (fq dp hp k0 hk_k0 hz c0 a0 r3 x5 u4_1 (decide (r12≤a0.Other)) [(.b (decide (r12≤a0.Other))),(.b (decide (r12≤a0.Other))),(.b (decide (r12≤a0.Other))),(I r12),(I a0.Kind),(.p k0 0),(I a0.Other),(.p ⟨dp,3⟩ 2),(.b (decide (a0.Other<0))),(.b (decide (a0.Other<0))),(I a0.Other),(.p ⟨dp,3⟩ 2),(.b r3.2.1),(.b r3.2.1),(W w 0),(W w 1),(W w 2),(W w 3),(W w 4),(W w 5),(W w 6),(W w 7),(W w 8),(W w 9),(W w 10),(W w 11),(W w 12),(W w 13)]) fun x14 h=>L h)) (fun h10 h=>ai (g1 h10)<|ai (g1 h10)<|ai (g1 h10)<|ai (g1 h10)<|ai (g1 h10)<|ai (g0 h9)<|ai h10<|ai h9<|aB h (fq dp hp k0 hk_k0 hz c0 a0 r3 x5 u4_1 false [(.b false),.sk,.sk,.sk,.sk,.sk,.sk,.sk,.sk,.sk,.sk,.sk,(.b r3.2.1),(.b r3.2.1),(W w 0),(W w 1),(W w 2),(W w 3),(W w 4),(W w 5),(W w 6),(W w 7),(W w 8),(W w 9),(W w 10),(W w 11),(W w 12),(W w 13)]) fun x11 h=>L h))
def tB:List cp:=gL (gM 49 6) [6] []::gL (gM 50 49) [49] []::⟨⟨some 51,.fa 1 3,some ⟨50,true⟩,false⟩,true,[3],[],false,[],[],[]⟩::⟨⟨some 52,.ld none 51,some ⟨50,true⟩,false⟩,true,[51],[3],false,[],[],[]⟩::⟨⟨some 53,.bo .lss false 52 (kI 0),some ⟨50,true⟩,false⟩,true,[52],[],false,[],[],[]⟩::⟨⟨some 54,.mv 53,some ⟨50,true⟩,false⟩,true,[53],[],false,[],[],[]⟩::⟨⟨some 55,.fa 1 3,some ⟨54,false⟩,false⟩,true,[3],[],false,[],[],[]⟩::⟨⟨some 56,.ld none 55,some ⟨54,false⟩,false⟩,true,[55],[3],false,[],[],[]⟩::⟨⟨some 57,.mv 0,some ⟨54,false⟩,false⟩,true,[0],[],false,[],[],[]⟩::⟨⟨some 58,.nc 57,some ⟨54,false⟩,false⟩,true,[57],[],false,[],[],[]⟩::⟨⟨some 59,.fa 0 58,some ⟨54,false⟩,false⟩,true,[58],[],false,[],[],[]⟩::⟨⟨some 60,.fa 5 59,some ⟨54,false⟩,false⟩,true,[59],[],false,[],[],[]⟩::⟨⟨some 61,.ld none 60,some ⟨54,false⟩,false⟩,true,[60],[],true,[],[],[]⟩::⟨⟨some 62,.ln false 61,some ⟨54,false⟩,false⟩,true,[61],[],true,[],[],[]⟩::⟨⟨some 63,.bo .geq false 56 62,some ⟨54,false⟩,false⟩,true,[56,62],[],false,[],[],[]⟩::⟨⟨some 64,.pk 54 (.c (.b true)) 63,some ⟨50,true⟩,false⟩,true,[54,63],[],false,[],[],[]⟩::gL (gp 65 (.pk 50 64 (.c (.b false)))) [50,64] []::nT
def fJ(r3:(Bool×Bool×Bool))(x5:Bool):Option Bool:=
 if r3.1=true then
  if a0.Var<0 then
   (dE c0 a0 r3 x5 true).bind fun (x9:Bool)=>
   some x9
  else
   (dE c0 a0 r3 x5 (decide ((c0.p.Vars.length:Int)≤a0.Var))).bind fun (x9:Bool)=>
   some x9
 else
  (dE c0 a0 r3 x5 false).bind fun (x8:Bool)=>
  some x8
abbrev tC(c0:Checker)(a0:Stmt)(r3:(Bool×Bool×Bool))(x5:Bool)(x:Bool):St:=⟨[(0,(.p k0 0)),(3,(.p ⟨dp,3⟩ 0)),(5,(I a0.Kind)),(6,(.b r3.1)),(7,(.b r3.2.1)),(8,(.b r3.2.2)),(9,(.b (decide (7≤a0.Kind)))),(10,(.b x5)),(48,(.b x))],[(3,(af a0))],ad hp k0 (ak c0)⟩
theorem sT(hk_k0:k0.dp<dp)(hz:bm dp hp)(c0:Checker)(a0:Stmt)(r3:(Bool×Bool×Bool))(x5:Bool)(x:Bool)(h:fJ c0 a0 r3 x5=some x):vu G Ω0 ⟨dp,false⟩ [0,3,5,6,7,8,9,10,48] [0,3] tB ⟨[(0,(.p k0 0)),(3,(.p ⟨dp,3⟩ 0)),(5,(I a0.Kind)),(6,(.b r3.1)),(7,(.b r3.2.1)),(8,(.b r3.2.2)),(9,(.b (decide (7≤a0.Kind)))),(10,(.b x5))],[(3,(af a0))],ad hp k0 (ak c0)⟩=some (tC dp hp k0 c0 a0 r3 x5 x):=
 FB (.or (js<|.or (bf<|bf<|bf<|bf<|bf<|bf<|bf<|bf<|bf<|bt<|bt<|bt<|.jb (some 66) 16<|.ex fun (x9:Bool)=>ao (.jn ⟨[(0,(.p k0 0)),(3,(.p ⟨dp,3⟩ 0)),(5,(I a0.Kind)),(6,(.b r3.1)),(7,(.b r3.2.1)),(8,(.b r3.2.2)),(9,(.b (decide (7≤a0.Kind)))),(10,(.b x5)),(48,(.b x9))],[(3,(af a0))],ad hp k0 (ak c0)⟩)<|.nil) (bt<|bt<|bt<|bt<|bt<|bt<|bt<|bt<|bf<|ao (.l (ak c0))<|bt<|ao (.i (c0.p.Vars.length:Int))<|bt<|bt<|bf<|bt<|.jb (some 66) 16<|.ex fun (x9:Bool)=>ao (.jn ⟨[(0,(.p k0 0)),(3,(.p ⟨dp,3⟩ 0)),(5,(I a0.Kind)),(6,(.b r3.1)),(7,(.b r3.2.1)),(8,(.b r3.2.2)),(9,(.b (decide (7≤a0.Kind)))),(10,(.b x5)),(48,(.b x9))],[(3,(af a0))],ad hp k0 (ak c0)⟩)<|.nil)) (FH<|.jb (some 66) 16<|.ex fun (x8:Bool)=>ao (.jn ⟨[(0,(.p k0 0)),(3,(.p ⟨dp,3⟩ 0)),(5,(I a0.Kind)),(6,(.b r3.1)),(7,(.b r3.2.1)),(8,(.b r3.2.2)),(9,(.b (decide (7≤a0.Kind)))),(10,(.b x5)),(48,(.b x8))],[(3,(af a0))],ad hp k0 (ak c0)⟩)<|.nil)) fun L=>cD<|aM h (fun h7 h=>ai (g1 h7)<|ai tt<|ai (g1 h7)<|ai (rN dp)<|ai tt<|ai (g1 h7)<|ai tt<|ai (g1 h7)<|ai tt<|bB h (fun h8 h=>ai (g0 (decide_eq_true h8))<|ai (g0 (decide_eq_true h8))<|ai (g0 (decide_eq_true h8))<|ai (g0 (decide_eq_true h8))<|ai (g0 (decide_eq_true h8))<|ai (g0 (decide_eq_true h8))<|ai (g0 (decide_eq_true h8))<|ai (g0 (decide_eq_true h8))<|ai (g0 (decide_eq_true h8))<|ai (g1 h7)<|ai (decide_eq_true h8)<|ai tt<|ai h7<|ai tt<|aB h (ja dp hp k0 hk_k0 hz c0 a0 r3 x5 true [(.b true),.sk,.sk,.sk,.sk,.sk,.sk,.sk,.sk,.sk,(.b (decide (a0.Var<0))),(.b (decide (a0.Var<0))),(I a0.Var),(.p ⟨dp,3⟩ 1)]) fun x9 h=>L h) (fun h8 h=>ai (g0 (decide_eq_false h8))<|ai tt<|ai (g0 (decide_eq_false h8))<|ai (rN dp)<|ai tt<|ai (g0 (decide_eq_false h8))<|ai tt<|ai (g0 (decide_eq_false h8))<|ai tt<|ai (g0 (decide_eq_false h8))<|ai tt<|ai (g0 (decide_eq_false h8))<|ai tt<|ai (g0 (decide_eq_false h8))<|ai (Nat.ne_of_lt hk_k0)<|ai (aq hp k0 (ak c0))<|ai tt<|ai (g0 (decide_eq_false h8))<|ai (ax bH c0.p.Vars)<|ai tt<|ai (g0 (decide_eq_false h8))<|ai tt<|ai (g1 h7)<|ai (decide_eq_false h8)<|ai tt<|ai h7<|ai tt<|aB h (ja dp hp k0 hk_k0 hz c0 a0 r3 x5 (decide ((c0.p.Vars.length:Int)≤a0.Var)) [(.b (decide ((c0.p.Vars.length:Int)≤a0.Var))),(.b (decide ((c0.p.Vars.length:Int)≤a0.Var))),(I (c0.p.Vars.length:Int)),(.l 91 (c0.p.Vars.map bH)),(.p k0 5),(.p k0 0),(.p k0 0),(.p k0 0),(I a0.Var),(.p ⟨dp,3⟩ 1),(.b (decide (a0.Var<0))),(.b (decide (a0.Var<0))),(I a0.Var),(.p ⟨dp,3⟩ 1)]) fun x9 h=>L h)) (fun h7 h=>ai (g1 h7)<|ai (g1 h7)<|ai (g1 h7)<|ai (g1 h7)<|ai (g1 h7)<|ai h7<|ai tt<|aB h (ja dp hp k0 hk_k0 hz c0 a0 r3 x5 false [.sk,.sk,.sk,.sk,.sk,.sk,.sk,.sk,.sk,.sk,.sk,.sk,.sk,.sk]) fun x8 h=>L h)
def mA:List cK:=(gA 82 136)::[]
def ed(c0:Checker)(a0:Stmt)(r3:(Bool×Bool×Bool))(x5:Bool)(x7:Bool)(u7_1:Bool)(u8_1:Bool)(u9_1:Bool)(u10_1:Bool)(u11_1:Bool):Option Bool:=
 some u11_1
abbrev sU(c0:Checker)(a0:Stmt)(r3:(Bool×Bool×Bool))(x5:Bool)(x7:Bool)(u7_1:Bool)(u8_1:Bool)(u9_1:Bool)(u10_1:Bool)(u11_1:Bool)(x:Bool):St:=⟨[(0,(.p k0 0)),(3,(.p ⟨dp,3⟩ 0)),(5,(I a0.Kind)),(8,(.b r3.2.2)),(82,(.b x))],[(3,(af a0))],ad hp k0 (ak c0)⟩
theorem iu(hk_k0:k0.dp<dp)(hz:bm dp hp)(c0:Checker)(a0:Stmt)(r3:(Bool×Bool×Bool))(x5:Bool)(x7:Bool)(u7_1:Bool)(u8_1:Bool)(u9_1:Bool)(u10_1:Bool)(u11_1:Bool)(w:List AV)(x:Bool)(h:ed c0 a0 r3 x5 x7 u7_1 u8_1 u9_1 u10_1 u11_1=some x):ew G Ω0 ⟨dp,false⟩ [0,3,5,8,82] [0,3] mA ⟨[(136,(.b u11_1)),(135,(W w 0)),(134,(W w 1)),(133,(W w 2)),(132,(W w 3)),(131,(W w 4)),(130,(W w 5)),(129,(W w 6)),(128,(W w 7)),(127,(.b u10_1)),(126,(.b u10_1)),(125,(W w 8)),(124,(W w 9)),(123,(W w 10)),(122,(W w 11)),(121,(W w 12)),(120,(W w 13)),(119,(W w 14)),(118,(W w 15)),(117,(.b u9_1)),(116,(.b u9_1)),(115,(W w 16)),(114,(W w 17)),(113,(W w 18)),(112,(W w 19)),(111,(W w 20)),(110,(W w 21)),(109,(W w 22)),(108,(W w 23)),(107,(.b u8_1)),(106,(.b u8_1)),(105,(W w 24)),(104,(W w 25)),(103,(W w 26)),(102,(W w 27)),(101,(W w 28)),(100,(W w 29)),(99,(.b u7_1)),(98,(.b u7_1)),(97,(W w 30)),(96,(W w 31)),(95,(W w 32)),(94,(W w 33)),(93,(W w 34)),(92,(W w 35)),(91,(W w 36)),(90,(W w 37)),(89,(W w 38)),(88,(W w 39)),(87,(W w 40)),(86,(W w 41)),(85,(.b (!r3.1))),(84,(.b (!r3.1))),(83,(.b r3.1)),(0,(.p k0 0)),(3,(.p ⟨dp,3⟩ 0)),(5,(I a0.Kind)),(6,(.b r3.1)),(7,(.b r3.2.1)),(8,(.b r3.2.2)),(9,(.b (decide (7≤a0.Kind)))),(10,(.b x5)),(48,(.b x7))],[(3,(af a0))],ad hp k0 (ak c0)⟩=some (sU dp hp k0 c0 a0 r3 x5 x7 u7_1 u8_1 u9_1 u10_1 u11_1 x):=
 dj (.nil) fun L=>L h
def mB:List cK:=(gM 127 126)::⟨some 128,.mv 5,some ⟨127,false⟩,false⟩::⟨some 129,.bo .neq false 128 (kI 7),some ⟨127,false⟩,false⟩::⟨some 130,.mv 129,some ⟨127,false⟩,false⟩::⟨some 131,.fa 8 3,some ⟨130,true⟩,false⟩::⟨some 132,.ld none 131,some ⟨130,true⟩,false⟩::⟨some 133,.ln false 132,some ⟨130,true⟩,false⟩::⟨some 134,.bo .gtr false 133 (kI 0),some ⟨130,true⟩,false⟩::⟨some 135,.pk 130 134 (.c (.b false)),some ⟨127,false⟩,false⟩::(gp 136 (.pk 127 (.c (.b true)) 135))::mA
def dx(r3:(Bool×Bool×Bool))(x5:Bool)(x7:Bool)(u7_1:Bool)(u8_1:Bool)(u9_1:Bool)(u10_1:Bool):Option Bool:=
 if u10_1=true then
  (ed c0 a0 r3 x5 x7 u7_1 u8_1 u9_1 u10_1 true).bind fun (x20:Bool)=>
  some x20
 else
  if (a0.Kind !=7)=true then
   (ed c0 a0 r3 x5 x7 u7_1 u8_1 u9_1 u10_1 (decide (0<(a0.Else.length:Int)))).bind fun (x21:Bool)=>
   some x21
  else
   (ed c0 a0 r3 x5 x7 u7_1 u8_1 u9_1 u10_1 false).bind fun (x21:Bool)=>
   some x21
abbrev sV(c0:Checker)(a0:Stmt)(r3:(Bool×Bool×Bool))(x5:Bool)(x7:Bool)(u7_1:Bool)(u8_1:Bool)(u9_1:Bool)(u10_1:Bool)(x:Bool):St:=⟨[(0,(.p k0 0)),(3,(.p ⟨dp,3⟩ 0)),(5,(I a0.Kind)),(8,(.b r3.2.2)),(82,(.b x))],[(3,(af a0))],ad hp k0 (ak c0)⟩
theorem iv(hk_k0:k0.dp<dp)(hz:bm dp hp)(c0:Checker)(a0:Stmt)(r3:(Bool×Bool×Bool))(x5:Bool)(x7:Bool)(u7_1:Bool)(u8_1:Bool)(u9_1:Bool)(u10_1:Bool)(w:List AV)(x:Bool)(h:dx c0 a0 r3 x5 x7 u7_1 u8_1 u9_1 u10_1=some x):ew G Ω0 ⟨dp,false⟩ [0,3,5,8,82] [0,3] mB ⟨[(126,(.b u10_1)),(125,(W w 0)),(124,(W w 1)),(123,(W w 2)),(122,(W w 3)),(121,(W w 4)),(120,(W w 5)),(119,(W w 6)),(118,(W w 7)),(117,(.b u9_1)),(116,(.b u9_1)),(115,(W w 8)),(114,(W w 9)),(113,(W w 10)),(112,(W w 11)),(111,(W w 12)),(110,(W w 13)),(109,(W w 14)),(108,(W w 15)),(107,(.b u8_1)),(106,(.b u8_1)),(105,(W w 16)),(104,(W w 17)),(103,(W w 18)),(102,(W w 19)),(101,(W w 20)),(100,(W w 21)),(99,(.b u7_1)),(98,(.b u7_1)),(97,(W w 22)),(96,(W w 23)),(95,(W w 24)),(94,(W w 25)),(93,(W w 26)),(92,(W w 27)),(91,(W w 28)),(90,(W w 29)),(89,(W w 30)),(88,(W w 31)),(87,(W w 32)),(86,(W w 33)),(85,(.b (!r3.1))),(84,(.b (!r3.1))),(83,(.b r3.1)),(0,(.p k0 0)),(3,(.p ⟨dp,3⟩ 0)),(5,(I a0.Kind)),(6,(.b r3.1)),(7,(.b r3.2.1)),(8,(.b r3.2.2)),(9,(.b (decide (7≤a0.Kind)))),(10,(.b x5)),(48,(.b x7))],[(3,(af a0))],ad hp k0 (ak c0)⟩=some (sV dp hp k0 c0 a0 r3 x5 x7 u7_1 u8_1 u9_1 u10_1 x):=
 dj (.or (wA<|.jb (some 82) 0<|.ex fun (x20:Bool)=>ao (.jn ⟨[(0,(.p k0 0)),(3,(.p ⟨dp,3⟩ 0)),(5,(I a0.Kind)),(8,(.b r3.2.2)),(82,(.b x20))],[(3,(af a0))],ad hp k0 (ak c0)⟩)<|.nil) (cR<|.or (jt<|ao (.i (a0.Else.length:Int))<|wB<|.jb (some 82) 0<|.ex fun (x21:Bool)=>ao (.jn ⟨[(0,(.p k0 0)),(3,(.p ⟨dp,3⟩ 0)),(5,(I a0.Kind)),(8,(.b r3.2.2)),(82,(.b x21))],[(3,(af a0))],ad hp k0 (ak c0)⟩)<|.nil) (xJ<|.jb (some 82) 0<|.ex fun (x21:Bool)=>ao (.jn ⟨[(0,(.p k0 0)),(3,(.p ⟨dp,3⟩ 0)),(5,(I a0.Kind)),(8,(.b r3.2.2)),(82,(.b x21))],[(3,(af a0))],ad hp k0 (ak c0)⟩)<|.nil))) fun L=>aM h (fun h19 h=>wz h19<|aB h (iu dp hp k0 hk_k0 hz c0 a0 r3 x5 x7 u7_1 u8_1 u9_1 u10_1 true [.sk,.sk,.sk,.sk,.sk,.sk,.sk,.sk,(W w 0),(W w 1),(W w 2),(W w 3),(W w 4),(W w 5),(W w 6),(W w 7),(W w 8),(W w 9),(W w 10),(W w 11),(W w 12),(W w 13),(W w 14),(W w 15),(W w 16),(W w 17),(W w 18),(W w 19),(W w 20),(W w 21),(W w 22),(W w 23),(W w 24),(W w 25),(W w 26),(W w 27),(W w 28),(W w 29),(W w 30),(W w 31),(W w 32),(W w 33)]) fun x20 h=>L h) (fun h19 h=>Ao h19<|aM h (fun h20 h=>sJ h20<|ai (rN dp)<|ai (g1 h20)<|ai (ax au a0.Else)<|ai (g1 h20)<|ai (g0 h19)<|ai h20<|ai h19<|aB h (iu dp hp k0 hk_k0 hz c0 a0 r3 x5 x7 u7_1 u8_1 u9_1 u10_1 (decide (0<(a0.Else.length:Int))) [(.b (decide (0<(a0.Else.length:Int)))),(.b (decide (0<(a0.Else.length:Int)))),(I (a0.Else.length:Int)),(.l 65 (a0.Else.map au)),(.p ⟨dp,3⟩ 8),(.b (a0.Kind !=7)),(.b (a0.Kind !=7)),(I a0.Kind),(W w 0),(W w 1),(W w 2),(W w 3),(W w 4),(W w 5),(W w 6),(W w 7),(W w 8),(W w 9),(W w 10),(W w 11),(W w 12),(W w 13),(W w 14),(W w 15),(W w 16),(W w 17),(W w 18),(W w 19),(W w 20),(W w 21),(W w 22),(W w 23),(W w 24),(W w 25),(W w 26),(W w 27),(W w 28),(W w 29),(W w 30),(W w 31),(W w 32),(W w 33)]) fun x21 h=>L h) (fun h20 h=>AG h20<|ai (g0 h19)<|ai h20<|ai h19<|aB h (iu dp hp k0 hk_k0 hz c0 a0 r3 x5 x7 u7_1 u8_1 u9_1 u10_1 false [(.b false),.sk,.sk,.sk,.sk,(.b (a0.Kind !=7)),(.b (a0.Kind !=7)),(I a0.Kind),(W w 0),(W w 1),(W w 2),(W w 3),(W w 4),(W w 5),(W w 6),(W w 7),(W w 8),(W w 9),(W w 10),(W w 11),(W w 12),(W w 13),(W w 14),(W w 15),(W w 16),(W w 17),(W w 18),(W w 19),(W w 20),(W w 21),(W w 22),(W w 23),(W w 24),(W w 25),(W w 26),(W w 27),(W w 28),(W w 29),(W w 30),(W w 31),(W w 32),(W w 33)]) fun x21 h=>L h))
def nU:List cK:=(gM 117 116)::⟨some 118,.mv 9,some ⟨117,false⟩,false⟩::⟨some 119,.no 118,some ⟨117,false⟩,false⟩::⟨some 120,.mv 119,some ⟨117,false⟩,false⟩::⟨some 121,.fa 7 3,some ⟨120,true⟩,false⟩::⟨some 122,.ld none 121,some ⟨120,true⟩,false⟩::⟨some 123,.ln false 122,some ⟨120,true⟩,false⟩::⟨some 124,.bo .gtr false 123 (kI 0),some ⟨120,true⟩,false⟩::⟨some 125,.pk 120 124 (.c (.b false)),some ⟨117,false⟩,false⟩::(gp 126 (.pk 117 (.c (.b true)) 125))::mB
def dF(r3:(Bool×Bool×Bool))(x5:Bool)(x7:Bool)(u7_1:Bool)(u8_1:Bool)(u9_1:Bool):Option Bool:=
 if u9_1=true then
  (dx c0 a0 r3 x5 x7 u7_1 u8_1 u9_1 true).bind fun (x18:Bool)=>
  some x18
 else
  if 7≤a0.Kind then
   (dx c0 a0 r3 x5 x7 u7_1 u8_1 u9_1 false).bind fun (x19:Bool)=>
   some x19
  else
   (dx c0 a0 r3 x5 x7 u7_1 u8_1 u9_1 (decide (0<(a0.Then.length:Int)))).bind fun (x19:Bool)=>
   some x19
abbrev tD(c0:Checker)(a0:Stmt)(r3:(Bool×Bool×Bool))(x5:Bool)(x7:Bool)(u7_1:Bool)(u8_1:Bool)(u9_1:Bool)(x:Bool):St:=⟨[(0,(.p k0 0)),(3,(.p ⟨dp,3⟩ 0)),(5,(I a0.Kind)),(8,(.b r3.2.2)),(82,(.b x))],[(3,(af a0))],ad hp k0 (ak c0)⟩
theorem jc(hk_k0:k0.dp<dp)(hz:bm dp hp)(c0:Checker)(a0:Stmt)(r3:(Bool×Bool×Bool))(x5:Bool)(x7:Bool)(u7_1:Bool)(u8_1:Bool)(u9_1:Bool)(w:List AV)(x:Bool)(h:dF c0 a0 r3 x5 x7 u7_1 u8_1 u9_1=some x):ew G Ω0 ⟨dp,false⟩ [0,3,5,8,82] [0,3] nU ⟨[(116,(.b u9_1)),(115,(W w 0)),(114,(W w 1)),(113,(W w 2)),(112,(W w 3)),(111,(W w 4)),(110,(W w 5)),(109,(W w 6)),(108,(W w 7)),(107,(.b u8_1)),(106,(.b u8_1)),(105,(W w 8)),(104,(W w 9)),(103,(W w 10)),(102,(W w 11)),(101,(W w 12)),(100,(W w 13)),(99,(.b u7_1)),(98,(.b u7_1)),(97,(W w 14)),(96,(W w 15)),(95,(W w 16)),(94,(W w 17)),(93,(W w 18)),(92,(W w 19)),(91,(W w 20)),(90,(W w 21)),(89,(W w 22)),(88,(W w 23)),(87,(W w 24)),(86,(W w 25)),(85,(.b (!r3.1))),(84,(.b (!r3.1))),(83,(.b r3.1)),(0,(.p k0 0)),(3,(.p ⟨dp,3⟩ 0)),(5,(I a0.Kind)),(6,(.b r3.1)),(7,(.b r3.2.1)),(8,(.b r3.2.2)),(9,(.b (decide (7≤a0.Kind)))),(10,(.b x5)),(48,(.b x7))],[(3,(af a0))],ad hp k0 (ak c0)⟩=some (tD dp hp k0 c0 a0 r3 x5 x7 u7_1 u8_1 u9_1 x):=
 dj (.or (wA<|.jb (some 127) 10<|.ex fun (x18:Bool)=>ao (.jn ⟨[(0,(.p k0 0)),(3,(.p ⟨dp,3⟩ 0)),(5,(I a0.Kind)),(8,(.b r3.2.2)),(82,(.b x18))],[(3,(af a0))],ad hp k0 (ak c0)⟩)<|.nil) (cR<|.or (xJ<|.jb (some 127) 10<|.ex fun (x19:Bool)=>ao (.jn ⟨[(0,(.p k0 0)),(3,(.p ⟨dp,3⟩ 0)),(5,(I a0.Kind)),(8,(.b r3.2.2)),(82,(.b x19))],[(3,(af a0))],ad hp k0 (ak c0)⟩)<|.nil) (jt<|ao (.i (a0.Then.length:Int))<|wB<|.jb (some 127) 10<|.ex fun (x19:Bool)=>ao (.jn ⟨[(0,(.p k0 0)),(3,(.p ⟨dp,3⟩ 0)),(5,(I a0.Kind)),(8,(.b r3.2.2)),(82,(.b x19))],[(3,(af a0))],ad hp k0 (ak c0)⟩)<|.nil))) fun L=>aM h (fun h17 h=>wz h17<|aB h (iv dp hp k0 hk_k0 hz c0 a0 r3 x5 x7 u7_1 u8_1 u9_1 true [.sk,.sk,.sk,.sk,.sk,.sk,.sk,.sk,(W w 0),(W w 1),(W w 2),(W w 3),(W w 4),(W w 5),(W w 6),(W w 7),(W w 8),(W w 9),(W w 10),(W w 11),(W w 12),(W w 13),(W w 14),(W w 15),(W w 16),(W w 17),(W w 18),(W w 19),(W w 20),(W w 21),(W w 22),(W w 23),(W w 24),(W w 25)]) fun x18 h=>L h) (fun h17 h=>Ao h17<|bB h (fun h18 h=>AG (congrArg not (decide_eq_true h18))<|ai (g0 h17)<|ai (congrArg not (decide_eq_true h18))<|ai h17<|aB h (iv dp hp k0 hk_k0 hz c0 a0 r3 x5 x7 u7_1 u8_1 u9_1 false [(.b false),.sk,.sk,.sk,.sk,(.b (!(decide (7≤a0.Kind)))),(.b (!(decide (7≤a0.Kind)))),(.b (decide (7≤a0.Kind))),(W w 0),(W w 1),(W w 2),(W w 3),(W w 4),(W w 5),(W w 6),(W w 7),(W w 8),(W w 9),(W w 10),(W w 11),(W w 12),(W w 13),(W w 14),(W w 15),(W w 16),(W w 17),(W w 18),(W w 19),(W w 20),(W w 21),(W w 22),(W w 23),(W w 24),(W w 25)]) fun x19 h=>L h) (fun h18 h=>sJ (congrArg not (decide_eq_false h18))<|ai (rN dp)<|ai (g1 (congrArg not (decide_eq_false h18)))<|ai (ax au a0.Then)<|ai (g1 (congrArg not (decide_eq_false h18)))<|ai (g0 h17)<|ai (congrArg not (decide_eq_false h18))<|ai h17<|aB h (iv dp hp k0 hk_k0 hz c0 a0 r3 x5 x7 u7_1 u8_1 u9_1 (decide (0<(a0.Then.length:Int))) [(.b (decide (0<(a0.Then.length:Int)))),(.b (decide (0<(a0.Then.length:Int)))),(I (a0.Then.length:Int)),(.l 65 (a0.Then.map au)),(.p ⟨dp,3⟩ 7),(.b (!(decide (7≤a0.Kind)))),(.b (!(decide (7≤a0.Kind)))),(.b (decide (7≤a0.Kind))),(W w 0),(W w 1),(W w 2),(W w 3),(W w 4),(W w 5),(W w 6),(W w 7),(W w 8),(W w 9),(W w 10),(W w 11),(W w 12),(W w 13),(W w 14),(W w 15),(W w 16),(W w 17),(W w 18),(W w 19),(W w 20),(W w 21),(W w 22),(W w 23),(W w 24),(W w 25)]) fun x19 h=>L h))
def nV:List cK:=(gM 107 106)::⟨some 108,.mv 5,some ⟨107,false⟩,false⟩::⟨some 109,.bo .neq false 108 (kI 2),some ⟨107,false⟩,false⟩::⟨some 110,.mv 109,some ⟨107,false⟩,false⟩::⟨some 111,.fa 6 3,some ⟨110,true⟩,false⟩::⟨some 112,.ld none 111,some ⟨110,true⟩,false⟩::⟨some 113,.ln false 112,some ⟨110,true⟩,false⟩::⟨some 114,.bo .gtr false 113 (kI 0),some ⟨110,true⟩,false⟩::⟨some 115,.pk 110 114 (.c (.b false)),some ⟨107,false⟩,false⟩::(gp 116 (.pk 107 (.c (.b true)) 115))::nU
def dG(r3:(Bool×Bool×Bool))(x5:Bool)(x7:Bool)(u7_1:Bool)(u8_1:Bool):Option Bool:=
 if u8_1=true then
  (dF c0 a0 r3 x5 x7 u7_1 u8_1 true).bind fun (x16:Bool)=>
  some x16
 else
  if (a0.Kind !=2)=true then
   (dF c0 a0 r3 x5 x7 u7_1 u8_1 (decide (0<(a0.Args.length:Int)))).bind fun (x17:Bool)=>
   some x17
  else
   (dF c0 a0 r3 x5 x7 u7_1 u8_1 false).bind fun (x17:Bool)=>
   some x17
abbrev tE(c0:Checker)(a0:Stmt)(r3:(Bool×Bool×Bool))(x5:Bool)(x7:Bool)(u7_1:Bool)(u8_1:Bool)(x:Bool):St:=⟨[(0,(.p k0 0)),(3,(.p ⟨dp,3⟩ 0)),(5,(I a0.Kind)),(8,(.b r3.2.2)),(82,(.b x))],[(3,(af a0))],ad hp k0 (ak c0)⟩
theorem jd(hk_k0:k0.dp<dp)(hz:bm dp hp)(c0:Checker)(a0:Stmt)(r3:(Bool×Bool×Bool))(x5:Bool)(x7:Bool)(u7_1:Bool)(u8_1:Bool)(w:List AV)(x:Bool)(h:dG c0 a0 r3 x5 x7 u7_1 u8_1=some x):ew G Ω0 ⟨dp,false⟩ [0,3,5,8,82] [0,3] nV ⟨[(106,(.b u8_1)),(105,(W w 0)),(104,(W w 1)),(103,(W w 2)),(102,(W w 3)),(101,(W w 4)),(100,(W w 5)),(99,(.b u7_1)),(98,(.b u7_1)),(97,(W w 6)),(96,(W w 7)),(95,(W w 8)),(94,(W w 9)),(93,(W w 10)),(92,(W w 11)),(91,(W w 12)),(90,(W w 13)),(89,(W w 14)),(88,(W w 15)),(87,(W w 16)),(86,(W w 17)),(85,(.b (!r3.1))),(84,(.b (!r3.1))),(83,(.b r3.1)),(0,(.p k0 0)),(3,(.p ⟨dp,3⟩ 0)),(5,(I a0.Kind)),(6,(.b r3.1)),(7,(.b r3.2.1)),(8,(.b r3.2.2)),(9,(.b (decide (7≤a0.Kind)))),(10,(.b x5)),(48,(.b x7))],[(3,(af a0))],ad hp k0 (ak c0)⟩=some (tE dp hp k0 c0 a0 r3 x5 x7 u7_1 u8_1 x):=
 dj (.or (wA<|.jb (some 117) 20<|.ex fun (x16:Bool)=>ao (.jn ⟨[(0,(.p k0 0)),(3,(.p ⟨dp,3⟩ 0)),(5,(I a0.Kind)),(8,(.b r3.2.2)),(82,(.b x16))],[(3,(af a0))],ad hp k0 (ak c0)⟩)<|.nil) (cR<|.or (jt<|ao (.i (a0.Args.length:Int))<|wB<|.jb (some 117) 20<|.ex fun (x17:Bool)=>ao (.jn ⟨[(0,(.p k0 0)),(3,(.p ⟨dp,3⟩ 0)),(5,(I a0.Kind)),(8,(.b r3.2.2)),(82,(.b x17))],[(3,(af a0))],ad hp k0 (ak c0)⟩)<|.nil) (xJ<|.jb (some 117) 20<|.ex fun (x17:Bool)=>ao (.jn ⟨[(0,(.p k0 0)),(3,(.p ⟨dp,3⟩ 0)),(5,(I a0.Kind)),(8,(.b r3.2.2)),(82,(.b x17))],[(3,(af a0))],ad hp k0 (ak c0)⟩)<|.nil))) fun L=>aM h (fun h15 h=>wz h15<|aB h (jc dp hp k0 hk_k0 hz c0 a0 r3 x5 x7 u7_1 u8_1 true [.sk,.sk,.sk,.sk,.sk,.sk,.sk,.sk,(W w 0),(W w 1),(W w 2),(W w 3),(W w 4),(W w 5),(W w 6),(W w 7),(W w 8),(W w 9),(W w 10),(W w 11),(W w 12),(W w 13),(W w 14),(W w 15),(W w 16),(W w 17)]) fun x16 h=>L h) (fun h15 h=>Ao h15<|aM h (fun h16 h=>sJ h16<|ai (rN dp)<|ai (g1 h16)<|ai (ax aD a0.Args)<|ai (g1 h16)<|ai (g0 h15)<|ai h16<|ai h15<|aB h (jc dp hp k0 hk_k0 hz c0 a0 r3 x5 x7 u7_1 u8_1 (decide (0<(a0.Args.length:Int))) [(.b (decide (0<(a0.Args.length:Int)))),(.b (decide (0<(a0.Args.length:Int)))),(I (a0.Args.length:Int)),(.l 63 (a0.Args.map aD)),(.p ⟨dp,3⟩ 6),(.b (a0.Kind !=2)),(.b (a0.Kind !=2)),(I a0.Kind),(W w 0),(W w 1),(W w 2),(W w 3),(W w 4),(W w 5),(W w 6),(W w 7),(W w 8),(W w 9),(W w 10),(W w 11),(W w 12),(W w 13),(W w 14),(W w 15),(W w 16),(W w 17)]) fun x17 h=>L h) (fun h16 h=>AG h16<|ai (g0 h15)<|ai h16<|ai h15<|aB h (jc dp hp k0 hk_k0 hz c0 a0 r3 x5 x7 u7_1 u8_1 false [(.b false),.sk,.sk,.sk,.sk,(.b (a0.Kind !=2)),(.b (a0.Kind !=2)),(I a0.Kind),(W w 0),(W w 1),(W w 2),(W w 3),(W w 4),(W w 5),(W w 6),(W w 7),(W w 8),(W w 9),(W w 10),(W w 11),(W w 12),(W w 13),(W w 14),(W w 15),(W w 16),(W w 17)]) fun x17 h=>L h))
def nW:List cK:=(gM 99 98)::⟨some 100,.mv 8,some ⟨99,false⟩,false⟩::⟨some 101,.no 100,some ⟨99,false⟩,false⟩::⟨some 102,.mv 101,some ⟨99,false⟩,false⟩::⟨some 103,.mv 10,some ⟨102,true⟩,false⟩::⟨some 104,.no 103,some ⟨102,true⟩,false⟩::⟨some 105,.pk 102 104 (.c (.b false)),some ⟨99,false⟩,false⟩::(gp 106 (.pk 99 (.c (.b true)) 105))::nV
def cI(r3:(Bool×Bool×Bool))(x5:Bool)(x7:Bool)(u7_1:Bool):Option Bool:=
 if u7_1=true then
  (dG c0 a0 r3 x5 x7 u7_1 true).bind fun (x14:Bool)=>
  some x14
 else
  if r3.2.2=true then
   (dG c0 a0 r3 x5 x7 u7_1 false).bind fun (x15:Bool)=>
   some x15
  else
   (dG c0 a0 r3 x5 x7 u7_1 (!x5)).bind fun (x15:Bool)=>
   some x15
abbrev tF(c0:Checker)(a0:Stmt)(r3:(Bool×Bool×Bool))(x5:Bool)(x7:Bool)(u7_1:Bool)(x:Bool):St:=⟨[(0,(.p k0 0)),(3,(.p ⟨dp,3⟩ 0)),(5,(I a0.Kind)),(8,(.b r3.2.2)),(82,(.b x))],[(3,(af a0))],ad hp k0 (ak c0)⟩
theorem ee(hk_k0:k0.dp<dp)(hz:bm dp hp)(c0:Checker)(a0:Stmt)(r3:(Bool×Bool×Bool))(x5:Bool)(x7:Bool)(u7_1:Bool)(w:List AV)(x:Bool)(h:cI c0 a0 r3 x5 x7 u7_1=some x):ew G Ω0 ⟨dp,false⟩ [0,3,5,8,82] [0,3] nW ⟨[(98,(.b u7_1)),(97,(W w 0)),(96,(W w 1)),(95,(W w 2)),(94,(W w 3)),(93,(W w 4)),(92,(W w 5)),(91,(W w 6)),(90,(W w 7)),(89,(W w 8)),(88,(W w 9)),(87,(W w 10)),(86,(W w 11)),(85,(.b (!r3.1))),(84,(.b (!r3.1))),(83,(.b r3.1)),(0,(.p k0 0)),(3,(.p ⟨dp,3⟩ 0)),(5,(I a0.Kind)),(6,(.b r3.1)),(7,(.b r3.2.1)),(8,(.b r3.2.2)),(9,(.b (decide (7≤a0.Kind)))),(10,(.b x5)),(48,(.b x7))],[(3,(af a0))],ad hp k0 (ak c0)⟩=some (tF dp hp k0 c0 a0 r3 x5 x7 u7_1 x):=
 dj (.or (wA<|.jb (some 107) 30<|.ex fun (x14:Bool)=>ao (.jn ⟨[(0,(.p k0 0)),(3,(.p ⟨dp,3⟩ 0)),(5,(I a0.Kind)),(8,(.b r3.2.2)),(82,(.b x14))],[(3,(af a0))],ad hp k0 (ak c0)⟩)<|.nil) (cR<|.or (bf<|bf<|bt<|bf<|bf<|.jb (some 107) 30<|.ex fun (x15:Bool)=>ao (.jn ⟨[(0,(.p k0 0)),(3,(.p ⟨dp,3⟩ 0)),(5,(I a0.Kind)),(8,(.b r3.2.2)),(82,(.b x15))],[(3,(af a0))],ad hp k0 (ak c0)⟩)<|.nil) (IL<|.jb (some 107) 30<|.ex fun (x15:Bool)=>ao (.jn ⟨[(0,(.p k0 0)),(3,(.p ⟨dp,3⟩ 0)),(5,(I a0.Kind)),(8,(.b r3.2.2)),(82,(.b x15))],[(3,(af a0))],ad hp k0 (ak c0)⟩)<|.nil))) fun L=>aM h (fun h13 h=>wz h13<|aB h (jd dp hp k0 hk_k0 hz c0 a0 r3 x5 x7 u7_1 true [.sk,.sk,.sk,.sk,.sk,.sk,(W w 0),(W w 1),(W w 2),(W w 3),(W w 4),(W w 5),(W w 6),(W w 7),(W w 8),(W w 9),(W w 10),(W w 11)]) fun x14 h=>L h) (fun h13 h=>Ao h13<|aM h (fun h14 h=>sJ (congrArg not h14)<|ai (g0 h13)<|ai (congrArg not h14)<|ai h13<|aB h (jd dp hp k0 hk_k0 hz c0 a0 r3 x5 x7 u7_1 false [(.b false),.sk,.sk,(.b (!r3.2.2)),(.b (!r3.2.2)),(.b r3.2.2),(W w 0),(W w 1),(W w 2),(W w 3),(W w 4),(W w 5),(W w 6),(W w 7),(W w 8),(W w 9),(W w 10),(W w 11)]) fun x15 h=>L h) (fun h14 h=>sJ (congrArg not h14)<|ai (g0 h13)<|ai (congrArg not h14)<|ai h13<|aB h (jd dp hp k0 hk_k0 hz c0 a0 r3 x5 x7 u7_1 (!x5) [(.b (!x5)),(.b (!x5)),(.b x5),(.b (!r3.2.2)),(.b (!r3.2.2)),(.b r3.2.2),(W w 0),(W w 1),(W w 2),(W w 3),(W w 4),(W w 5),(W w 6),(W w 7),(W w 8),(W w 9),(W w 10),(W w 11)]) fun x15 h=>L h))
def tG:List cK:=(gM 83 6)::(gp 84 (.no 83))::(gM 85 84)::⟨some 86,.fa 1 3,some ⟨85,true⟩,false⟩::⟨some 87,.ld none 86,some ⟨85,true⟩,false⟩::⟨some 88,.bo .neq false 87 (kI 0),some ⟨85,true⟩,false⟩::(gp 89 (.pk 85 88 (.c (.b false))))::(gM 90 89)::⟨some 91,.mv 7,some ⟨90,false⟩,false⟩::⟨some 92,.no 91,some ⟨90,false⟩,false⟩::⟨some 93,.mv 92,some ⟨90,false⟩,false⟩::⟨some 94,.fa 2 3,some ⟨93,true⟩,false⟩::⟨some 95,.ld none 94,some ⟨93,true⟩,false⟩::⟨some 96,.bo .neq false 95 (kI 0),some ⟨93,true⟩,false⟩::⟨some 97,.pk 93 96 (.c (.b false)),some ⟨90,false⟩,false⟩::(gp 98 (.pk 90 (.c (.b true)) 97))::nW
def fK(r3:(Bool×Bool×Bool))(x5:Bool)(x7:Bool):Option Bool:=
 if r3.1=true then
  if r3.2.1=true then
   (cI c0 a0 r3 x5 x7 false).bind fun (x12:Bool)=>
   some x12
  else
   (cI c0 a0 r3 x5 x7 (a0.Other !=0)).bind fun (x12:Bool)=>
   some x12
 else
  if (a0.Var !=0)=true then
   (cI c0 a0 r3 x5 x7 true).bind fun (x12:Bool)=>
   some x12
  else
   if r3.2.1=true then
    (cI c0 a0 r3 x5 x7 false).bind fun (x13:Bool)=>
    some x13
   else
    (cI c0 a0 r3 x5 x7 (a0.Other !=0)).bind fun (x13:Bool)=>
    some x13
abbrev tH(c0:Checker)(a0:Stmt)(r3:(Bool×Bool×Bool))(x5:Bool)(x7:Bool)(x:Bool):St:=⟨[(0,(.p k0 0)),(3,(.p ⟨dp,3⟩ 0)),(5,(I a0.Kind)),(8,(.b r3.2.2)),(82,(.b x))],[(3,(af a0))],ad hp k0 (ak c0)⟩
theorem sW(hk_k0:k0.dp<dp)(hz:bm dp hp)(c0:Checker)(a0:Stmt)(r3:(Bool×Bool×Bool))(x5:Bool)(x7:Bool)(x:Bool)(h:fK c0 a0 r3 x5 x7=some x):ew G Ω0 ⟨dp,false⟩ [0,3,5,8,82] [0,3] tG ⟨[(0,(.p k0 0)),(3,(.p ⟨dp,3⟩ 0)),(5,(I a0.Kind)),(6,(.b r3.1)),(7,(.b r3.2.1)),(8,(.b r3.2.2)),(9,(.b (decide (7≤a0.Kind)))),(10,(.b x5)),(48,(.b x7))],[(3,(af a0))],ad hp k0 (ak c0)⟩=some (tH dp hp k0 c0 a0 r3 x5 x7 x):=
 dj (.or (bf<|bf<|bf<|bf<|bt<|bt<|bt<|.or (Aq<|.jb (some 99) 38<|.ex fun (x12:Bool)=>ao (.jn ⟨[(0,(.p k0 0)),(3,(.p ⟨dp,3⟩ 0)),(5,(I a0.Kind)),(8,(.b r3.2.2)),(82,(.b x12))],[(3,(af a0))],ad hp k0 (ak c0)⟩)<|.nil) (B3<|.jb (some 99) 38<|.ex fun (x12:Bool)=>ao (.jn ⟨[(0,(.p k0 0)),(3,(.p ⟨dp,3⟩ 0)),(5,(I a0.Kind)),(8,(.b r3.2.2)),(82,(.b x12))],[(3,(af a0))],ad hp k0 (ak c0)⟩)<|.nil)) (js<|.or (wA<|.jb (some 99) 38<|.ex fun (x12:Bool)=>ao (.jn ⟨[(0,(.p k0 0)),(3,(.p ⟨dp,3⟩ 0)),(5,(I a0.Kind)),(8,(.b r3.2.2)),(82,(.b x12))],[(3,(af a0))],ad hp k0 (ak c0)⟩)<|.nil) (cR<|.or (Aq<|.jb (some 99) 38<|.ex fun (x13:Bool)=>ao (.jn ⟨[(0,(.p k0 0)),(3,(.p ⟨dp,3⟩ 0)),(5,(I a0.Kind)),(8,(.b r3.2.2)),(82,(.b x13))],[(3,(af a0))],ad hp k0 (ak c0)⟩)<|.nil) (B3<|.jb (some 99) 38<|.ex fun (x13:Bool)=>ao (.jn ⟨[(0,(.p k0 0)),(3,(.p ⟨dp,3⟩ 0)),(5,(I a0.Kind)),(8,(.b r3.2.2)),(82,(.b x13))],[(3,(af a0))],ad hp k0 (ak c0)⟩)<|.nil)))) fun L=>aM h (fun h10 h=>ai (g1 (congrArg not h10))<|ai (g1 (congrArg not h10))<|ai (g1 (congrArg not h10))<|ai (congrArg not h10)<|ai hf<|ai hf<|ai hf<|aM h (fun h11 h=>HW (congrArg not h11)<|aB h (ee dp hp k0 hk_k0 hz c0 a0 r3 x5 x7 false [(.b false),.sk,.sk,.sk,(.b (!r3.2.1)),(.b (!r3.2.1)),(.b r3.2.1),(.b false),(.b false),.sk,.sk,.sk]) fun x12 h=>L h) (fun h11 h=>sJ (congrArg not h11)<|ai (rN dp)<|ai (g1 (congrArg not h11))<|ai hf<|ai (congrArg not h11)<|ai ff<|aB h (ee dp hp k0 hk_k0 hz c0 a0 r3 x5 x7 (a0.Other !=0) [(.b (a0.Other !=0)),(.b (a0.Other !=0)),(I a0.Other),(.p ⟨dp,3⟩ 2),(.b (!r3.2.1)),(.b (!r3.2.1)),(.b r3.2.1),(.b false),(.b false),.sk,.sk,.sk]) fun x12 h=>L h)) (fun h10 h=>sJ (congrArg not h10)<|ai (rN dp)<|vz (congrArg not h10)<|aM h (fun h11 h=>wz h11<|aB h (ee dp hp k0 hk_k0 hz c0 a0 r3 x5 x7 true [.sk,.sk,.sk,.sk,.sk,.sk,.sk,(.b (a0.Var !=0)),(.b (a0.Var !=0)),(.b (a0.Var !=0)),(I a0.Var),(.p ⟨dp,3⟩ 1)]) fun x12 h=>L h) (fun h11 h=>Ao h11<|aM h (fun h12 h=>Ey (congrArg not h12)<|ai (g0 h11)<|ai (congrArg not h12)<|ai h11<|aB h (ee dp hp k0 hk_k0 hz c0 a0 r3 x5 x7 false [(.b false),.sk,.sk,.sk,(.b (!r3.2.1)),(.b (!r3.2.1)),(.b r3.2.1),(.b (a0.Var !=0)),(.b (a0.Var !=0)),(.b (a0.Var !=0)),(I a0.Var),(.p ⟨dp,3⟩ 1)]) fun x13 h=>L h) (fun h12 h=>sJ (congrArg not h12)<|ai (rN dp)<|ai (g1 (congrArg not h12))<|ai (g0 h11)<|ai (congrArg not h12)<|ai h11<|aB h (ee dp hp k0 hk_k0 hz c0 a0 r3 x5 x7 (a0.Other !=0) [(.b (a0.Other !=0)),(.b (a0.Other !=0)),(I a0.Other),(.p ⟨dp,3⟩ 2),(.b (!r3.2.1)),(.b (!r3.2.1)),(.b r3.2.1),(.b (a0.Var !=0)),(.b (a0.Var !=0)),(.b (a0.Var !=0)),(I a0.Var),(.p ⟨dp,3⟩ 1)]) fun x13 h=>L h)))
def eW(v0_173:Nat):Option (Nat⊕(Int⊕(Nat×Bool))):=
 if (v0_173:Int)<(a0.Args.length:Int) then
  (a0.Args[v0_173]?).bind fun (y24:ag)=>
  (iV y24 (c0.p.Vars.length:Int)).bind fun (r26:Int)=>
  if (r26 !=0)=true then
   some (.inr (.inl r26))
  else
   if IntKind.i64.wrap ((v0_173:Int)+1)=((v0_173+1:Nat):Int) then
    some (.inl (v0_173+1))
   else none
 else
  some (.inr (.inr (v0_173,decide ((v0_173:Int)<(a0.Args.length:Int)))))
abbrev uv(dp:Nat)(hp:HP)(k0:Key)(c0:Checker)(a0:Stmt)(v:Nat):St:=⟨[(0,(.p k0 0)),(171,(.l 63 (a0.Args.map aD))),(172,(I (a0.Args.length:Int))),(173,(I (v:Int)))],[],ad hp k0 (ak c0)⟩
abbrev uw(dp:Nat)(hp:HP)(k0:Key)(c0:Checker)(a0:Stmt)(x:(Int⊕(Nat×Bool))):aJ×St:=match x with | .inl z1=>(.ret,⟨[(4,(I z1))],[],ad hp k0 (ak c0)⟩) | .inr (z1,z2)=>((.ex 1),⟨[(0,(.p k0 0)),(171,(.l 63 (a0.Args.map aD))),(172,(I (a0.Args.length:Int))),(173,(I (z1:Int))),(174,(.b z2))],[],ad hp k0 (ak c0)⟩)
theorem tI(hk_k0:k0.dp<dp)(hz:bm dp hp)(c0:Checker)(a0:Stmt)(v0_173:Nat)(o:Nat⊕(Int⊕(Nat×Bool)))(h:eW c0 a0 v0_173=some o):bu ⟨dp,false⟩ Mg (uv dp hp k0 c0 a0) (uw dp hp k0 c0 a0) v0_173 o:=
 bD (.or (bt<|ao (.n v0_173)<|.ex fun (y24:ag)=>ao (.v (.a (bn y24)))<|wB<|ao (.l (ak c0))<|ao (.i (c0.p.Vars.length:Int))<|xI fun r26=>oN (ao (.i ((v0_173+1:Nat):Int))<|.nil)) (bf<|.nil)) fun L=>bB h (fun h23 h=>ai (decide_eq_true h23)<|ai (rI v0_173)<|ba h fun y24 h25 h=>ai (cF aD h25 (dm _))<|ai ((by simp [bn,AV.aQ,AV.aN,AV.deep,AV.b6,aG hk_k0,Nat.le_of_lt hk_k0]):(([(176,(.a (bn y24))),(175,(.e (.a (bn y24)) 0)),(0,(.p k0 0)),(171,(.l 63 (a0.Args.map aD))),(172,(I (a0.Args.length:Int))),(173,(I (v0_173:Int)))]:List (Nat×AV)).all (fun y=>y.2.aQ ⟨dp,13⟩)&&([]:List (Nat×List AV)).all (fun y=>AV.aN ⟨dp,13⟩ y.2))=true)<|ai ff<|ai (rN dp)<|ai tt<|ai (rN dp)<|ai tt<|ai (rN dp)<|lK<|ai (Nat.ne_of_lt hk_k0)<|ai (aq hp k0 (ak c0))<|ai tt<|ai (ax bH c0.p.Vars)<|ai tt<|aB h (pF y24 (c0.p.Vars.length:Int)) fun r26 h=>aM h (fun h28 h=>ai h28<|L h) (fun h28 h=>ai h28<|aA h fun w29 h=>ai w29<|L h)) (fun h23 h=>ai (decide_eq_false h23)<|L h)
def eI:Option (Int⊕Unit):=
 (lp (fun v=>eW c0 a0 v) 0).bind fun (x23:(Int⊕(Nat×Bool)))=>match x23 with
 | .inl ya_24=>
  some (.inl ya_24)
 | .inr yb_24=>
  some (.inr ())
abbrev tJ(dp:Nat)(hp:HP)(k0:Key)(c0:Checker)(a0:Stmt)(x:(Int⊕Unit)):aJ×St:=match x with | .inl z1=>(.ret,⟨[(4,(I z1))],[],ad hp k0 (ak c0)⟩) | .inr ()=>(.ret,⟨[(4,(I 0))],[],ad hp k0 (ak c0)⟩)
theorem mC(hk_k0:k0.dp<dp)(hz:bm dp hp)(c0:Checker)(a0:Stmt)(x:(Int⊕Unit))(h:eI c0 a0=some x):run G Ω0 ⟨dp,false⟩ Mh ⟨[(0,(.p k0 0)),(3,(.p ⟨dp,3⟩ 0))],[(3,(af a0))],ad hp k0 (ak c0)⟩=some (tJ dp hp k0 c0 a0 x):=
 ga (bt<|ao (.i (a0.Args.length:Int))<|.or (.ex fun (ya_24:Int)=>ao (.lp .ret ⟨[(4,(I ya_24))],[],ad hp k0 (ak c0)⟩)<|.nil) (.ex fun (yb_24:(Nat×Bool))=>ao (.lp (.ex 1) ⟨[(0,(.p k0 0)),(171,(.l 63 (a0.Args.map aD))),(172,(I (a0.Args.length:Int))),(173,(I (yb_24.1:Int))),(174,(.b yb_24.2))],[],ad hp k0 (ak c0)⟩)<|.nil)) fun L=>ai (rN dp)<|ai (ax aD a0.Args)<|bO h (cV (tI dp hp k0 hk_k0 hz c0 a0) 0) (fun ya_24 h=>L h) (fun yb_24 h=>L h)
def eJ(r3:(Bool×Bool×Bool)):Option (Int⊕Unit):=
 if r3.2.2=true then
  (iV a0.Expr (c0.p.Vars.length:Int)).bind fun (r20:Int)=>
  if (r20 !=0)=true then
   some (.inl r20)
  else
   (eI c0 a0).bind fun (x23:(Int⊕Unit))=>match x23 with
   | .inl ya_24=>
    some (.inl ya_24)
   | .inr yb_24=>
    some (.inr ())
 else
  (eI c0 a0).bind fun (x20:(Int⊕Unit))=>match x20 with
  | .inl ya_21=>
   some (.inl ya_21)
  | .inr yb_21=>
   some (.inr ())
abbrev tK(dp:Nat)(hp:HP)(k0:Key)(c0:Checker)(a0:Stmt)(r3:(Bool×Bool×Bool))(x:(Int⊕Unit)):aJ×St:=match x with | .inl z1=>(.ret,⟨[(4,(I z1))],[],ad hp k0 (ak c0)⟩) | .inr ()=>(.ret,⟨[(4,(I 0))],[],ad hp k0 (ak c0)⟩)
theorem mD(hk_k0:k0.dp<dp)(hz:bm dp hp)(c0:Checker)(a0:Stmt)(r3:(Bool×Bool×Bool))(x:(Int⊕Unit))(h:eJ c0 a0 r3=some x):run G Ω0 ⟨dp,false⟩ Mi ⟨[(0,(.p k0 0)),(3,(.p ⟨dp,3⟩ 0)),(8,(.b r3.2.2))],[(3,(af a0))],ad hp k0 (ak c0)⟩=some (tK dp hp k0 c0 a0 r3 x):=
 ga (.or (xK<|ao (.l (ak c0))<|ao (.i (c0.p.Vars.length:Int))<|xI fun r20=>oN (.fb<|.or (.ex fun (ya_24:Int)=>ao (.fr .ret ⟨[(4,(I ya_24))],[],ad hp k0 (ak c0)⟩)<|.nil) (.ex fun (yb_24:Unit)=>ao (.fr .ret ⟨[(4,(I 0))],[],ad hp k0 (ak c0)⟩)<|.nil))) (bf<|.fb<|.or (.ex fun (ya_21:Int)=>ao (.fr .ret ⟨[(4,(I ya_21))],[],ad hp k0 (ak c0)⟩)<|.nil) (.ex fun (yb_21:Unit)=>ao (.fr .ret ⟨[(4,(I 0))],[],ad hp k0 (ak c0)⟩)<|.nil))) fun L=>aM h (fun h19 h=>FC h19<|ai (rN dp)<|lK<|ai (Nat.ne_of_lt hk_k0)<|ai (aq hp k0 (ak c0))<|ai tt<|ai (ax bH c0.p.Vars)<|ai tt<|aB h (pF a0.Expr (c0.p.Vars.length:Int)) fun r20 h=>aM h (fun h22 h=>ai h22<|L h) (fun h22 h=>ai h22<|bO h (mC dp hp k0 hk_k0 hz c0 a0) (fun ya_24 h=>L h) (fun yb_24 h=>L h))) (fun h19 h=>ai h19<|bO h (mC dp hp k0 hk_k0 hz c0 a0) (fun ya_21 h=>L h) (fun yb_21 h=>L h))
abbrev vF(dp:Nat)(hp:HP)(k0:Key)(c0:Checker)(a0:Stmt)(r:Int):bh×HP:=(.ret (I r),ad hp k0 (ak c0))
def iw:Option Int:=
 if a0.Kind<1 then
  some 7
 else
  if 8<a0.Kind then
   some 7
  else
   (oM a0.Kind).bind fun (r3:(Bool×Bool×Bool))=>
   (fI c0 a0 r3).bind fun (x5:Bool)=>
   (fJ c0 a0 r3 x5).bind fun (x7:Bool)=>
   if x7=true then
    some 5
   else
    (fK c0 a0 r3 x5 x7).bind fun (x10:Bool)=>
    if x10=true then
     some 1
    else
     if (a0.Kind==2)=true then
      (dU a0.Other).bind fun (j14:Nat)=>
      (c0.p.Funcs[j14]?).bind fun (y16:Func)=>
      if ((a0.Args.length:Int) !=(y16.Params.length:Int))=true then
       some 1
      else
       (eJ c0 a0 r3).bind fun (x19:(Int⊕Unit))=>match x19 with
       | .inl ya_20=>
        some ya_20
       | .inr yb_20=>
        some 0
     else
      (eJ c0 a0 r3).bind fun (x14:(Int⊕Unit))=>match x14 with
      | .inl ya_15=>
       some ya_15
      | .inr yb_15=>
       some 0
theorem tL(hk_k0:k0.dp<dp)(hz:bm dp hp)(c0:Checker)(a0:Stmt)(r:Int)(h:iw c0 a0=some r):call G Ω0 ⟨dp,false⟩ 86 [(.p k0 0),(.a (af a0))] (ad hp k0 (ak c0))=some (vF dp hp k0 c0 a0 r):=
 aO G86 (bt<|.or (bf<|bf<|bt<|bt<|.nil) (xK<|oN (.ex fun (r3:(Bool×Bool×Bool))=>ao (.v (.tp [(.b r3.1),(.b r3.2.1),(.b r3.2.2)]))<|.jb (some 31) 17<|.ex fun (x5:Bool)=>ao (.jn ⟨[(0,(.p k0 0)),(3,(.p ⟨dp,3⟩ 0)),(5,(I a0.Kind)),(6,(.b r3.1)),(7,(.b r3.2.1)),(8,(.b r3.2.2)),(9,(.b (decide (7≤a0.Kind)))),(10,(.b x5))],[(3,(af a0))],ad hp k0 (ak c0)⟩)<|.jb (some 49) 33<|.ex fun (x7:Bool)=>ao (.jn ⟨[(0,(.p k0 0)),(3,(.p ⟨dp,3⟩ 0)),(5,(I a0.Kind)),(6,(.b r3.1)),(7,(.b r3.2.1)),(8,(.b r3.2.2)),(9,(.b (decide (7≤a0.Kind)))),(10,(.b x5)),(48,(.b x7))],[(3,(af a0))],ad hp k0 (ak c0)⟩)<|oN (.jb (some 83) 54<|.ex fun (x10:Bool)=>ao (.jn ⟨[(0,(.p k0 0)),(3,(.p ⟨dp,3⟩ 0)),(5,(I a0.Kind)),(8,(.b r3.2.2)),(82,(.b x10))],[(3,(af a0))],ad hp k0 (ak c0)⟩)<|oN (.or (jt<|ao (.i (a0.Args.length:Int))<|FG<|ao (.l (ak c0))<|jt<|xN fun j14=>.ex fun (y16:Func)=>ao (.v (.a (bL y16)))<|cR<|ao (.i (y16.Params.length:Int))<|b5<|oN (.fb<|.or (.ex fun (ya_20:Int)=>ao (.fr .ret ⟨[(4,(I ya_20))],[],ad hp k0 (ak c0)⟩)<|.nil) (.ex fun (yb_20:Unit)=>ao (.fr .ret ⟨[(4,(I 0))],[],ad hp k0 (ak c0)⟩)<|.nil))) (bf<|bf<|bf<|bf<|bf<|bf<|bf<|bf<|bf<|bf<|bf<|bf<|bf<|bf<|bf<|bf<|bf<|.fb<|.or (.ex fun (ya_15:Int)=>ao (.fr .ret ⟨[(4,(I ya_15))],[],ad hp k0 (ak c0)⟩)<|.nil) (.ex fun (yb_15:Unit)=>ao (.fr .ret ⟨[(4,(I 0))],[],ad hp k0 (ak c0)⟩)<|.nil))))))) fun L=>ai ((by simp [af,AV.aQ,AV.aN,AV.deep,AV.b6,aG hk_k0,Nat.le_of_lt hk_k0]):(((.a (af a0)):AV).deep dp&&(([(0,(.p k0 0)),(1,(.a (af a0)))]:List (Nat×AV)).all (fun y=>y.2.aQ ⟨dp,3⟩)&&([]:List (Nat×List AV)).all (fun y=>AV.aN ⟨dp,3⟩ y.2)))=true)<|ai (rN dp)<|bB h (fun h1 h=>ai (g0 (decide_eq_true h1))<|ai (g0 (decide_eq_true h1))<|ai (decide_eq_true h1)<|ai tt<|L h) (fun h1 h=>AH (decide_eq_false h1)<|bB h (fun h2 h=>ai (decide_eq_true h2)<|L h) (fun h2 h=>ai (decide_eq_false h2)<|aB h (AZ a0.Kind) fun r3 h=>aB h (sS dp hp k0 hk_k0 hz c0 a0 r3) fun x5 h=>ai tt<|aB h (sT dp hp k0 hk_k0 hz c0 a0 r3 x5) fun x7 h=>aM h (fun h9 h=>ai h9<|L h) (fun h9 h=>ai h9<|aB h (sW dp hp k0 hk_k0 hz c0 a0 r3 x5 x7) fun x10 h=>aM h (fun h12 h=>ai h12<|L h) (fun h12 h=>Ds h12<|aM h (fun h13 h=>ai (g1 h13)<|ai tt<|ai (g1 h13)<|ai (rN dp)<|ai tt<|ai (g1 h13)<|ai (ax aD a0.Args)<|ai tt<|ai (g1 h13)<|ai tt<|ai (g1 h13)<|ai tt<|ai (g1 h13)<|ai tt<|ai (g1 h13)<|ai tt<|ai (g1 h13)<|ai (Nat.ne_of_lt hk_k0)<|ai (aq hp k0 (ak c0))<|ai tt<|ai (g1 h13)<|ai tt<|ai (g1 h13)<|ai (rN dp)<|ai tt<|ai (g1 h13)<|fG h fun j14 h15 h=>ai h15<|ba h fun y16 h17 h=>ai (ay bc h17)<|ai tt<|ai (g1 h13)<|ai tt<|ai (g1 h13)<|ai tt<|ai (g1 h13)<|ai (ax (I) y16.Params)<|ai tt<|ai (g1 h13)<|ai h13<|aM h (fun h18 h=>ai h18<|L h) (fun h18 h=>ai h18<|bO h (mD dp hp k0 hk_k0 hz c0 a0 r3) (fun ya_20 h=>L h) (fun yb_20 h=>L h))) (fun h13 h=>ai (g1 h13)<|ai (g1 h13)<|ai (g1 h13)<|ai (g1 h13)<|ai (g1 h13)<|ai (g1 h13)<|ai (g1 h13)<|ai (g1 h13)<|ai (g1 h13)<|ai (g1 h13)<|ai (g1 h13)<|ai (g1 h13)<|ai (g1 h13)<|ai (g1 h13)<|ai (g1 h13)<|ai h13<|ai ff<|bO h (mD dp hp k0 hk_k0 hz c0 a0 r3) (fun ya_15 h=>L h) (fun yb_15 h=>L h))))))
end
section
variable (dp:Nat)(hp:HP)(k0:Key)(a0:Stmt)
abbrev tM(dp:Nat)(hp:HP)(k0:Key)(k1:Key)(k2:Key)(a0:Stmt)(a1:Int)(c0:Unit)(c1:Checker)(c2:Int)(r:(Bool×Unit×Int)):bh×HP:=(.ret (.b r.1),ad (ad (ad hp k0 [(.p k1 0)]) k1 (ak c1)) k2 [(I r.2.2)])
def jw(a1:Int)(c0:Unit)(c1:Checker)(c2:Int):Option (Bool×Unit×Int):=
 (iw c1 a0).bind fun (r1:Int)=>
 some ((r1==0),(),r1)
theorem rF(hk_k0:k0.dp<dp)(k1:Key)(hk_k1:k1.dp<dp)(k2:Key)(hk_k2:k2.dp<dp)(hn_k0_k1:k0≠k1)(hn_k0_k2:k0≠k2)(hn_k1_k2:k1≠k2)(hz:bm dp hp)(a0:Stmt)(a1:Int)(c0:Unit)(c1:Checker)(c2:Int)(r:(Bool×Unit×Int))(h:jw a0 a1 c0 c1 c2=some r):call G Ω0 ⟨dp,false⟩ 85 [(.a (af a0)),(I a1),(.p k0 0),(.p k2 0)] (ad (ad (ad hp k0 [(.p k1 0)]) k1 (ak c1)) k2 [(I c2)])=some (tM dp hp k0 k1 k2 a0 a1 c0 c1 c2 r):=
 aO G85 (bf<|ao (.l [(.p k1 0)])<|bt<|xI fun r1=>ao (.h (boxes dp [(4,(af a0))] (ad (ad (ad hp k0 [(.p k1 0)]) k1 (ak c1)) k2 [(I c2)])))<|ao (.bx [(4,(af a0))])<|ao (.h (ad (ad (ad hp k0 [(.p k1 0)]) k1 (ak c1)) k2 [(I c2)]))<|bf<|ao (.l [(I c2)])<|bf<|ao (.h (ad (ad (ad hp k0 [(.p k1 0)]) k1 (ak c1)) k2 [(I r1)]))<|bf<|ao (.l [(I r1)])<|.nil) fun L=>ai ((by simp [af,AV.aQ,AV.aN,AV.deep,AV.b6,aG hk_k0,Nat.le_of_lt hk_k0,aG hk_k1,Nat.le_of_lt hk_k1,aG hk_k2,Nat.le_of_lt hk_k2]):(((.a (af a0)):AV).deep dp&&(([(0,(.a (af a0))),(1,(I a1)),(2,(.p k0 0)),(3,(.p k2 0))]:List (Nat×AV)).all (fun y=>y.2.aQ ⟨dp,4⟩)&&([]:List (Nat×List AV)).all (fun y=>AV.aN ⟨dp,4⟩ y.2)))=true)<|ai (Nat.ne_of_lt hk_k0)<|ai ((Fz hn_k0_k2).trans ((Fz hn_k0_k1).trans (aq ..)):(ad (ad (ad hp k0 [(.p k1 0)]) k1 (ak c1)) k2 [(I c2)]) k0=some [(.p k1 0)])<|ai (rN dp)<|gI<|ba h fun r1 ek2 h=>have ek2:call G Ω0 ⟨dp+1,false⟩ 86 [(.p k1 0),(.a (af a0))] (boxes dp [(4,(af a0))] (ad (ad (ad hp k0 [(.p k1 0)]) k1 (ak c1)) k2 [(I c2)]))=some (.ret (I r1),boxes dp [(4,(af a0))] (ad (ad (ad hp k0 [(.p k1 0)]) k1 (ak c1)) k2 [(I c2)])):=ey (bZ (hp1:=ad (ad (ad hp k0 [(.p k1 0)]) k1 (ak c1)) k2 [(I c2)]) (Nat.ne_of_lt hk_k1) (dv (Ne.symm hn_k1_k2) (aV ..))) (bZ (hp1:=ad (ad (ad hp k0 [(.p k1 0)]) k1 (ak c1)) k2 [(I c2)]) (Nat.ne_of_lt hk_k1) (dv (Ne.symm hn_k1_k2) (aV ..))) (tL (dp+1) (boxes dp [(4,(af a0))] (ad (ad (ad hp k0 [(.p k1 0)]) k1 (ak c1)) k2 [(I c2)])) k1 (Nat.lt_succ_of_lt hk_k1) (a9 (aH hk_k2 (aH hk_k1 (aH hk_k0 (hz))))) c1 a0 _ ek2);ai ek2<|ai (er ek2 (by kernel_rfl) (by kernel_rfl))<|ai (et ek2 (aH hk_k2 (aH hk_k1 (aH hk_k0 (hz)))))<|ai ff<|ai (Nat.ne_of_lt hk_k2)<|ai (aq (ad (ad hp k0 [(.p k1 0)]) k1 (ak c1)) k2 [(I c2)])<|ai tt<|ai (Nat.ne_of_lt hk_k2)<|ai (aV (ad (ad hp k0 [(.p k1 0)]) k1 (ak c1)) k2 [(I c2)] [(I r1)])<|ai (Nat.ne_of_lt hk_k2)<|ai (aq (ad (ad hp k0 [(.p k1 0)]) k1 (ak c1)) k2 [(I r1)])<|L h
end
section
variable (dp:Nat)(hp:HP)(k0:Key)(k1:Key)(k2:Key)(a0:(List Stmt))(a1:Int)(c0:Unit)(c1:Checker)(c2:Int)
abbrev ny(dp:Nat)(hp:HP)(k0:Key)(k1:Key)(k2:Key)(a0:(List Stmt))(a1:Int)(c0:Unit)(c1:Checker)(c2:Int)(r:(Bool×Unit×Int)):bh×HP:=(.ret (.b r.1),ad (ad (ad hp k0 [(.p k1 0)]) k1 (ak c1)) k2 [(I r.2.2)])
abbrev eC(r:(Bool×Unit×Int)):Prop:=call G Ω0 ⟨dp,false⟩ 57 [(.l 65 (a0.map au)),(I a1),(.f 85 [(.p k0 0),(.p k2 0)])] (ad (ad (ad hp k0 [(.p k1 0)]) k1 (ak c1)) k2 [(I c2)])=some (ny dp hp k0 k1 k2 a0 a1 c0 c1 c2 r)
end
structure eD where
 f_scope_Walk__scope_checker_stmts_1:(List Stmt)→Int→Unit→Checker→Int→Option (Bool×Unit×Int)
structure ef(R:eD):Prop where
 f_scope_Walk__scope_checker_stmts_1:∀ (dp:Nat)(hp:HP)(k0:Key)(hk_k0:k0.dp<dp)(k1:Key)(hk_k1:k1.dp<dp)(k2:Key)(hk_k2:k2.dp<dp)(hn_k0_k1:k0≠k1)(hn_k0_k2:k0≠k2)(hn_k1_k2:k1≠k2)(hz:bm dp hp)(a0:(List Stmt))(a1:Int)(c0:Unit)(c1:Checker)(c2:Int)(r:(Bool×Unit×Int)),R.f_scope_Walk__scope_checker_stmts_1 a0 a1 c0 c1 c2=some r→eC dp hp k0 k1 k2 a0 a1 c0 c1 c2 r
section
variable (R:eD)(a0:(List Stmt))(a1:Int)(c1:Checker)(dp:Nat)(hp:HP)(k0:Key)(c0:Unit)
def cX(v0_11:Nat)(v0_k2_0:Int):Option ((Nat×Int)⊕(Int⊕(Nat×Bool×Int))):=
 if (v0_11:Int)<(a0.length:Int) then
  (a0[v0_11]?).bind fun (y2:Stmt)=>
  (jw y2 a1 () c1 v0_k2_0).bind fun (r4:(Bool×Unit×Int))=>
  if r4.1=true then
   if IntKind.i64.wrap (a1+1)=a1+1 then
    (R.f_scope_Walk__scope_checker_stmts_1 y2.Then (a1+1) () c1 r4.2.2).bind fun (r8:(Bool×Unit×Int))=>
    if r8.1=true then
     (R.f_scope_Walk__scope_checker_stmts_1 y2.Else (a1+1) () c1 r8.2.2).bind fun (r11:(Bool×Unit×Int))=>
     if r11.1=true then
      if IntKind.i64.wrap ((v0_11:Int)+1)=((v0_11+1:Nat):Int) then
       some (.inl (v0_11+1,r11.2.2))
      else none
     else
      some (.inr (.inl r11.2.2))
    else
     some (.inr (.inl r8.2.2))
   else none
  else
   some (.inr (.inl r4.2.2))
 else
  some (.inr (.inr (v0_11,decide ((v0_11:Int)<(a0.length:Int)),v0_k2_0)))
abbrev ml(dp:Nat)(hp:HP)(k0:Key)(k1:Key)(k2:Key)(a0:(List Stmt))(a1:Int)(c1:Checker)(v:(Nat×Int)):St:=⟨[(1,(I a1)),(2,(.f 85 [(.p k0 0),(.p k2 0)])),(9,(.l 65 (a0.map au))),(10,(I (a0.length:Int))),(11,(I (v.1:Int)))],[],ad (ad (ad hp k0 [(.p k1 0)]) k1 (ak c1)) k2 [(I v.2)]⟩
abbrev mm(dp:Nat)(hp:HP)(k0:Key)(k1:Key)(k2:Key)(a0:(List Stmt))(a1:Int)(c1:Checker)(x:(Int⊕(Nat×Bool×Int))):aJ×St:=match x with | .inl z1=>(.ret,⟨[(6,(.b false))],[],ad (ad (ad hp k0 [(.p k1 0)]) k1 (ak c1)) k2 [(I z1)]⟩) | .inr (z1,z2,z3)=>((.ex 0),⟨[(1,(I a1)),(2,(.f 85 [(.p k0 0),(.p k2 0)])),(9,(.l 65 (a0.map au))),(10,(I (a0.length:Int))),(11,(I (z1:Int))),(12,(.b z2))],[],ad (ad (ad hp k0 [(.p k1 0)]) k1 (ak c1)) k2 [(I z3)]⟩)
theorem lN(hR:ef R)(dp:Nat)(hp:HP)(k0:Key)(hk_k0:k0.dp<dp)(k1:Key)(hk_k1:k1.dp<dp)(k2:Key)(hk_k2:k2.dp<dp)(hn_k0_k1:k0≠k1)(hn_k0_k2:k0≠k2)(hn_k1_k2:k1≠k2)(hz:bm dp hp)(a0:(List Stmt))(a1:Int)(c1:Checker)(v0_11:Nat)(v0_k2_0:Int)(o:(Nat×Int)⊕(Int⊕(Nat×Bool×Int)))(h:cX R a0 a1 c1 v0_11 v0_k2_0=some o):bu ⟨dp,false⟩ Fc (ml dp hp k0 k1 k2 a0 a1 c1) (mm dp hp k0 k1 k2 a0 a1 c1) (v0_11,v0_k2_0) o:=
 bD (.or (bt<|ao (.n v0_11)<|.ex fun (y2:Stmt)=>ao (.v (.a (af y2)))<|cR<|.ex fun (r4:(Bool×Unit×Int))=>ao (.v (.b r4.1))<|ao (.h (boxes dp [(8,(af y2))] (ad (ad (ad hp k0 [(.p k1 0)]) k1 (ak c1)) k2 [(I r4.2.2)])))<|ao (.bx [(8,(af y2))])<|ao (.h (ad (ad (ad hp k0 [(.p k1 0)]) k1 (ak c1)) k2 [(I r4.2.2)]))<|.or (js<|ao (.i (a1+1))<|b5<|.ex fun (r8:(Bool×Unit×Int))=>ao (.v (.b r8.1))<|ao (.h (boxes dp [(8,(af y2))] (ad (ad (ad hp k0 [(.p k1 0)]) k1 (ak c1)) k2 [(I r8.2.2)])))<|ao (.bx [(8,(af y2))])<|ao (.h (ad (ad (ad hp k0 [(.p k1 0)]) k1 (ak c1)) k2 [(I r8.2.2)]))<|fF<|.or (js<|ao (.i (a1+1))<|b5<|.ex fun (r11:(Bool×Unit×Int))=>ao (.v (.b r11.1))<|ao (.h (boxes dp [(8,(af y2))] (ad (ad (ad hp k0 [(.p k1 0)]) k1 (ak c1)) k2 [(I r11.2.2)])))<|ao (.bx [(8,(af y2))])<|ao (.h (ad (ad (ad hp k0 [(.p k1 0)]) k1 (ak c1)) k2 [(I r11.2.2)]))<|fF<|.or (bf<|ao (.i ((v0_11+1:Nat):Int))<|.nil) (bt<|.nil)) (KB<|.nil)) (KC<|.nil)) (bf<|.nil)) fun L=>bB h (fun h1 h=>ai (decide_eq_true h1)<|ai (rI v0_11)<|ba h fun y2 h3 h=>ai (cF au h3 (ea _))<|ai ((by simp [af,AV.aQ,AV.aN,AV.deep,AV.b6,aG hk_k0,Nat.le_of_lt hk_k0,aG hk_k1,Nat.le_of_lt hk_k1,aG hk_k2,Nat.le_of_lt hk_k2]):(([(14,(.a (af y2))),(13,(.e (.a (af y2)) 0)),(1,(I a1)),(2,(.f 85 [(.p k0 0),(.p k2 0)])),(9,(.l 65 (a0.map au))),(10,(I (a0.length:Int))),(11,(I (v0_11:Int)))]:List (Nat×AV)).all (fun y=>y.2.aQ ⟨dp,8⟩)&&([]:List (Nat×List AV)).all (fun y=>AV.aN ⟨dp,8⟩ y.2))=true)<|ai ff<|ai (rN dp)<|ai tt<|ai (rN dp)<|ai (rN dp)<|gI<|ba h fun r4 ek5 h=>have ek5:call G Ω0 ⟨dp+1,false⟩ 85 [(.a (af y2)),(I a1),(.p k0 0),(.p k2 0)] (boxes dp [(8,(af y2))] (ad (ad (ad hp k0 [(.p k1 0)]) k1 (ak c1)) k2 [(I v0_k2_0)]))=some (.ret (.b r4.1),boxes dp [(8,(af y2))] (ad (ad (ad hp k0 [(.p k1 0)]) k1 (ak c1)) k2 [(I r4.2.2)])):=ey (eK (eK (bZ (hp1:=ad (ad (ad hp k0 [(.p k1 0)]) k1 (ak c1)) k2 [(I v0_k2_0)]) (Nat.ne_of_lt hk_k0) (dv (Ne.symm hn_k0_k2) (dv (Ne.symm hn_k0_k1) (aV ..)))) (bZ (hp1:=ad (ad (ad hp k0 [(.p k1 0)]) k1 (ak c1)) k2 [(I v0_k2_0)]) (Nat.ne_of_lt hk_k1) (dv (Ne.symm hn_k1_k2) (aV ..)))) (bZ (hp1:=ad (ad (ad hp k0 [(.p k1 0)]) k1 (ak c1)) k2 [(I v0_k2_0)]) (Nat.ne_of_lt hk_k2) (aV ..))) (eK (eK (bZ (hp1:=ad (ad (ad hp k0 [(.p k1 0)]) k1 (ak c1)) k2 [(I v0_k2_0)]) (Nat.ne_of_lt hk_k0) (dv (Ne.symm hn_k0_k2) (dv (Ne.symm hn_k0_k1) (aV ..)))) (bZ (hp1:=ad (ad (ad hp k0 [(.p k1 0)]) k1 (ak c1)) k2 [(I v0_k2_0)]) (Nat.ne_of_lt hk_k1) (dv (Ne.symm hn_k1_k2) (aV ..)))) (bZ (hp1:=ad (ad (ad hp k0 [(.p k1 0)]) k1 (ak c1)) k2 [(I r4.2.2)]) (Nat.ne_of_lt hk_k2) (aV ..))) (rF (dp+1) (boxes dp [(8,(af y2))] (ad (ad (ad hp k0 [(.p k1 0)]) k1 (ak c1)) k2 [(I v0_k2_0)])) k0 (Nat.lt_succ_of_lt hk_k0) k1 (Nat.lt_succ_of_lt hk_k1) k2 (Nat.lt_succ_of_lt hk_k2) (hn_k0_k1) (hn_k0_k2) (hn_k1_k2) (a9 (aH hk_k2 (aH hk_k1 (aH hk_k0 (hz))))) y2 a1 () c1 v0_k2_0 _ ek5);ai ek5<|ai (er ek5 (by kernel_rfl) (by kernel_rfl))<|ai (et ek5 (aH hk_k2 (aH hk_k1 (aH hk_k0 (hz)))))<|aM h (fun h6 h=>lJ (congrArg not h6)<|ai (rN dp)<|lJ (congrArg not h6)<|aA h fun w7 h=>ai w7<|AF (congrArg not h6)<|ba h fun r8 ek9 h=>have ek9:call G Ω0 ⟨dp+1,false⟩ 57 [(.l 65 (y2.Then.map au)),(I (a1+1)),(.f 85 [(.p k0 0),(.p k2 0)])] (boxes dp [(8,(af y2))] (ad (ad (ad hp k0 [(.p k1 0)]) k1 (ak c1)) k2 [(I r4.2.2)]))=some (.ret (.b r8.1),boxes dp [(8,(af y2))] (ad (ad (ad hp k0 [(.p k1 0)]) k1 (ak c1)) k2 [(I r8.2.2)])):=ey (eK (eK (bZ (hp1:=ad (ad (ad hp k0 [(.p k1 0)]) k1 (ak c1)) k2 [(I r4.2.2)]) (Nat.ne_of_lt hk_k0) (dv (Ne.symm hn_k0_k2) (dv (Ne.symm hn_k0_k1) (aV ..)))) (bZ (hp1:=ad (ad (ad hp k0 [(.p k1 0)]) k1 (ak c1)) k2 [(I r4.2.2)]) (Nat.ne_of_lt hk_k1) (dv (Ne.symm hn_k1_k2) (aV ..)))) (bZ (hp1:=ad (ad (ad hp k0 [(.p k1 0)]) k1 (ak c1)) k2 [(I r4.2.2)]) (Nat.ne_of_lt hk_k2) (aV ..))) (eK (eK (bZ (hp1:=ad (ad (ad hp k0 [(.p k1 0)]) k1 (ak c1)) k2 [(I r4.2.2)]) (Nat.ne_of_lt hk_k0) (dv (Ne.symm hn_k0_k2) (dv (Ne.symm hn_k0_k1) (aV ..)))) (bZ (hp1:=ad (ad (ad hp k0 [(.p k1 0)]) k1 (ak c1)) k2 [(I r4.2.2)]) (Nat.ne_of_lt hk_k1) (dv (Ne.symm hn_k1_k2) (aV ..)))) (bZ (hp1:=ad (ad (ad hp k0 [(.p k1 0)]) k1 (ak c1)) k2 [(I r8.2.2)]) (Nat.ne_of_lt hk_k2) (aV ..))) (hR.f_scope_Walk__scope_checker_stmts_1 (dp+1) (boxes dp [(8,(af y2))] (ad (ad (ad hp k0 [(.p k1 0)]) k1 (ak c1)) k2 [(I r4.2.2)])) k0 (Nat.lt_succ_of_lt hk_k0) k1 (Nat.lt_succ_of_lt hk_k1) k2 (Nat.lt_succ_of_lt hk_k2) (hn_k0_k1) (hn_k0_k2) (hn_k1_k2) (a9 (aH hk_k2 (aH hk_k1 (aH hk_k0 (hz))))) y2.Then (a1+1) () c1 r4.2.2 _ ek9);ai ek9<|ai (er ek9 (by kernel_rfl) (by kernel_rfl))<|ai (et ek9 (aH hk_k2 (aH hk_k1 (aH hk_k0 (hz)))))<|nX (congrArg not h6)<|aM h (fun h10 h=>lJ (congrArg not h10)<|ai (rN dp)<|lJ (congrArg not h10)<|ai w7<|AF (congrArg not h10)<|ba h fun r11 ek12 h=>have ek12:call G Ω0 ⟨dp+1,false⟩ 57 [(.l 65 (y2.Else.map au)),(I (a1+1)),(.f 85 [(.p k0 0),(.p k2 0)])] (boxes dp [(8,(af y2))] (ad (ad (ad hp k0 [(.p k1 0)]) k1 (ak c1)) k2 [(I r8.2.2)]))=some (.ret (.b r11.1),boxes dp [(8,(af y2))] (ad (ad (ad hp k0 [(.p k1 0)]) k1 (ak c1)) k2 [(I r11.2.2)])):=ey (eK (eK (bZ (hp1:=ad (ad (ad hp k0 [(.p k1 0)]) k1 (ak c1)) k2 [(I r8.2.2)]) (Nat.ne_of_lt hk_k0) (dv (Ne.symm hn_k0_k2) (dv (Ne.symm hn_k0_k1) (aV ..)))) (bZ (hp1:=ad (ad (ad hp k0 [(.p k1 0)]) k1 (ak c1)) k2 [(I r8.2.2)]) (Nat.ne_of_lt hk_k1) (dv (Ne.symm hn_k1_k2) (aV ..)))) (bZ (hp1:=ad (ad (ad hp k0 [(.p k1 0)]) k1 (ak c1)) k2 [(I r8.2.2)]) (Nat.ne_of_lt hk_k2) (aV ..))) (eK (eK (bZ (hp1:=ad (ad (ad hp k0 [(.p k1 0)]) k1 (ak c1)) k2 [(I r8.2.2)]) (Nat.ne_of_lt hk_k0) (dv (Ne.symm hn_k0_k2) (dv (Ne.symm hn_k0_k1) (aV ..)))) (bZ (hp1:=ad (ad (ad hp k0 [(.p k1 0)]) k1 (ak c1)) k2 [(I r8.2.2)]) (Nat.ne_of_lt hk_k1) (dv (Ne.symm hn_k1_k2) (aV ..)))) (bZ (hp1:=ad (ad (ad hp k0 [(.p k1 0)]) k1 (ak c1)) k2 [(I r11.2.2)]) (Nat.ne_of_lt hk_k2) (aV ..))) (hR.f_scope_Walk__scope_checker_stmts_1 (dp+1) (boxes dp [(8,(af y2))] (ad (ad (ad hp k0 [(.p k1 0)]) k1 (ak c1)) k2 [(I r8.2.2)])) k0 (Nat.lt_succ_of_lt hk_k0) k1 (Nat.lt_succ_of_lt hk_k1) k2 (Nat.lt_succ_of_lt hk_k2) (hn_k0_k1) (hn_k0_k2) (hn_k1_k2) (a9 (aH hk_k2 (aH hk_k1 (aH hk_k0 (hz))))) y2.Else (a1+1) () c1 r8.2.2 _ ek12);ai ek12<|ai (er ek12 (by kernel_rfl) (by kernel_rfl))<|ai (et ek12 (aH hk_k2 (aH hk_k1 (aH hk_k0 (hz)))))<|nX (congrArg not h10)<|aM h (fun h13 h=>ai (congrArg not h13)<|aA h fun w14 h=>ai w14<|L h) (fun h13 h=>ai (congrArg not h13)<|L h)) (fun h10 h=>Ku (congrArg not h10)<|L h)) (fun h6 h=>Kv (congrArg not h6)<|L h)) (fun h1 h=>ai (decide_eq_false h1)<|L h)
def db(c0:Unit)(c1:Checker)(c2:Int):Option (Bool×Unit×Int):=
 (lp (fun v=>cX R a0 a1 c1 v.1 v.2) (0,c2)).bind fun (x1:(Int⊕(Nat×Bool×Int)))=>match x1 with
 | .inl ya_2=>
  some (false,(),ya_2)
 | .inr yb_2=>
  some (true,(),yb_2.2.2)
theorem lC(hR:ef R)(dp:Nat)(hp:HP)(k0:Key)(hk_k0:k0.dp<dp)(k1:Key)(hk_k1:k1.dp<dp)(k2:Key)(hk_k2:k2.dp<dp)(hn_k0_k1:k0≠k1)(hn_k0_k2:k0≠k2)(hn_k1_k2:k1≠k2)(hz:bm dp hp)(a0:(List Stmt))(a1:Int)(c0:Unit)(c1:Checker)(c2:Int)(r:(Bool×Unit×Int))(h:db R a0 a1 c0 c1 c2=some r):eC dp hp k0 k1 k2 a0 a1 c0 c1 c2 r:=
 aO P0 (ao (.i (a0.length:Int))<|.or (.ex fun (ya_2:Int)=>ao (.lp .ret ⟨[(6,(.b false))],[],ad (ad (ad hp k0 [(.p k1 0)]) k1 (ak c1)) k2 [(I ya_2)]⟩)<|.nil) (.ex fun (yb_2:(Nat×Bool×Int))=>ao (.lp (.ex 0) ⟨[(1,(I a1)),(2,(.f 85 [(.p k0 0),(.p k2 0)])),(9,(.l 65 (a0.map au))),(10,(I (a0.length:Int))),(11,(I (yb_2.1:Int))),(12,(.b yb_2.2.1))],[],ad (ad (ad hp k0 [(.p k1 0)]) k1 (ak c1)) k2 [(I yb_2.2.2)]⟩)<|.nil)) fun L=>ai (ax au a0)<|bO h (cV (fun v=>lN R hR dp hp k0 hk_k0 k1 hk_k1 k2 hk_k2 hn_k0_k1 hn_k0_k2 hn_k1_k2 hz a0 a1 c1 v.1 v.2) (0,c2)) (fun ya_2 h=>L h) (fun yb_2 h=>L h)
def cj:Nat→eD
 | 0=>⟨fun z0 z1 z2 z3 z4=>none⟩
 | n+1=>⟨db (cj n)⟩
theorem gm:∀ n,ef (cj n)
 | 0=>⟨fun _ _ _ _ _ _ _ _ _ _ _ _ _ _ _ _ _ r h=>(by cases h)⟩
 | n+1=>⟨fun dp hp k0 hk_k0 k1 hk_k1 k2 hk_k2 hn_k0_k1 hn_k0_k2 hn_k1_k2 hz a0 a1 c0 c1 c2 r h=>lC _ (gm n) dp hp k0 hk_k0 k1 hk_k1 k2 hk_k2 hn_k0_k1 hn_k0_k2 hn_k1_k2 hz a0 a1 c0 c1 c2 r h⟩
def eE(c1:Checker)(c2:Int):Option (Bool×Unit×Int):=ev fun n=>(cj n).f_scope_Walk__scope_checker_stmts_1 a0 a1 c0 c1 c2
theorem lO(hk_k0:k0.dp<dp)(k1:Key)(hk_k1:k1.dp<dp)(k2:Key)(hk_k2:k2.dp<dp)(hn_k0_k1:k0≠k1)(hn_k0_k2:k0≠k2)(hn_k1_k2:k1≠k2)(hz:bm dp hp)(a0:(List Stmt))(a1:Int)(c0:Unit)(c1:Checker)(c2:Int)(r:(Bool×Unit×Int))(h:eE a0 a1 c0 c1 c2=some r):eC dp hp k0 k1 k2 a0 a1 c0 c1 c2 r:=by
 obtain ⟨n,hn⟩:=iO h
 exact (gm n).f_scope_Walk__scope_checker_stmts_1 dp hp k0 hk_k0 k1 hk_k1 k2 hk_k2 hn_k0_k1 hn_k0_k2 hn_k1_k2 hz a0 a1 c0 c1 c2 r hn
end
section
variable (dp:Nat)(hp:HP)(k0:Key)(c0:Checker)(a0:(List Stmt))
abbrev uU(dp:Nat)(hp:HP)(k0:Key)(c0:Checker)(a0:(List Stmt))(r:Int):bh×HP:=(.ret (I r),ad hp k0 (ak c0))
def fc:Option Int:=
 (eE a0 1 () c0 0).bind fun (r1:(Bool×Unit×Int))=>
 some r1.2.2
theorem mE(hk_k0:k0.dp<dp)(hz:bm dp hp)(c0:Checker)(a0:(List Stmt))(r:Int)(h:fc c0 a0=some r):call G Ω0 ⟨dp,false⟩ 54 [(.p k0 0),(.l 65 (a0.map au))] (ad hp k0 (ak c0))=some (uU dp hp k0 c0 a0 r):=
 aO G54 (b5<|.ex fun (r1:(Bool×Unit×Int))=>ao (.v (.b r1.1))<|ao (.h (boxes dp [(2,[(.p k0 0)]),(5,[(I r1.2.2)])] (ad hp k0 (ak c0))))<|ao (.bx [(2,[(.p k0 0)]),(5,[(I r1.2.2)])])<|ao (.h (ad hp k0 (ak c0)))<|bt<|.nil) fun L=>ai ((by simp [AV.aQ,AV.aN,AV.deep,AV.b6,aG hk_k0,Nat.le_of_lt hk_k0]):(((.p k0 0):AV).deep dp&&(([(0,(.p k0 0)),(1,(.l 65 (a0.map au)))]:List (Nat×AV)).all (fun y=>y.2.aQ ⟨dp,2⟩)&&([]:List (Nat×List AV)).all (fun y=>AV.aN ⟨dp,2⟩ y.2)))=true)<|ai ((by simp [AV.aQ,AV.aN,AV.deep,AV.b6,aG hk_k0,Nat.le_of_lt hk_k0]):(([(1,(.l 65 (a0.map au))),(2,(.p ⟨dp,2⟩ 0))]:List (Nat×AV)).all (fun y=>y.2.aQ ⟨dp,5⟩)&&([(2,[(.p k0 0)])]:List (Nat×List AV)).all (fun y=>AV.aN ⟨dp,5⟩ y.2))=true)<|ai ff<|ai (rN dp)<|ai tt<|ai (rN dp)<|ai ff<|ai ((by simp [AV.deep,AV.b6,Nat.le_of_lt hk_k0]):([(2,[(.p k0 0)]),(5,[(I 0)])]:List (Nat×List AV)).all (fun y=>AV.b6 dp y.2)=true)<|ba h fun r1 ek2 h=>have ek2:call G Ω0 ⟨dp+1,false⟩ 57 [(.l 65 (a0.map au)),(I 1),(.f 85 [(.p ⟨dp,2⟩ 0),(.p ⟨dp,5⟩ 0)])] (boxes dp [(2,[(.p k0 0)]),(5,[(I 0)])] (ad hp k0 (ak c0)))=some (.ret (.b r1.1),boxes dp [(2,[(.p k0 0)]),(5,[(I r1.2.2)])] (ad hp k0 (ak c0))):=ey (eK (eK (cY (bx1:=[(2,[(.p k0 0)]),(5,[(I 0)])]) (by kernel_rfl) (by kernel_rfl)) (bZ (hp1:=ad hp k0 (ak c0)) (Nat.ne_of_lt hk_k0) (aV ..))) (cY (bx1:=[(2,[(.p k0 0)]),(5,[(I 0)])]) (by kernel_rfl) (by kernel_rfl))) (eK (eK (cY (bx1:=[(2,[(.p k0 0)]),(5,[(I 0)])]) (by kernel_rfl) (by kernel_rfl)) (bZ (hp1:=ad hp k0 (ak c0)) (Nat.ne_of_lt hk_k0) (aV ..))) (cY (bx1:=[(2,[(.p k0 0)]),(5,[(I r1.2.2)])]) (by kernel_rfl) (by kernel_rfl))) (lO (dp+1) (boxes dp [(2,[(.p k0 0)]),(5,[(I 0)])] (ad hp k0 (ak c0))) ⟨dp,2⟩ (Nat.lt_succ_self dp) k0 (Nat.lt_succ_of_lt hk_k0) ⟨dp,5⟩ (Nat.lt_succ_self dp) (MO hk_k0) (Qg (by decide)) (aG hk_k0) (a9 (aH hk_k0 (hz))) a0 1 () c0 0 _ ek2);ai ek2<|ai (er ek2 (by kernel_rfl) (by kernel_rfl))<|ai (et ek2 (aH hk_k0 (hz)))<|ai (rN dp)<|L h
end
section
variable (c0:Checker)(a0:Func)(dp:Nat)(hp:HP)(k0:Key)
def iy(v0_15:Nat):Option (Nat⊕(Unit⊕(Unit⊕(Nat×Bool)))):=
 if (v0_15:Int)<(a0.Params.length:Int) then
  (a0.Params[v0_15]?).bind fun (y3:Int)=>
  if y3<0 then
   some (.inr (.inl ()))
  else
   if (c0.p.Vars.length:Int)≤y3 then
    some (.inr (.inl ()))
   else
    if v0_15≤a0.Params.length then
     (gy ((a0.Params.take v0_15).drop 0) y3).bind fun (r8:Bool)=>
     if r8=true then
      some (.inr (.inr (.inl ())))
     else
      if IntKind.i64.wrap ((v0_15:Int)+1)=((v0_15+1:Nat):Int) then
       some (.inl (v0_15+1))
      else none
    else none
 else
  some (.inr (.inr (.inr (v0_15,decide ((v0_15:Int)<(a0.Params.length:Int))))))
abbrev vG(c0:Checker)(a0:Func)(v:Nat):St:=⟨[(0,(.p k0 0)),(3,(.p ⟨dp,3⟩ 0)),(13,(.l 3 (a0.Params.map (I)))),(14,(I (a0.Params.length:Int))),(15,(I (v:Int)))],[(3,(bL a0))],ad hp k0 (ak c0)⟩
abbrev vH(c0:Checker)(a0:Func)(x:(Unit⊕(Unit⊕(Nat×Bool)))):aJ×St:=match x with | .inl ()=>(.ret,⟨[(4,(I 5))],[],ad hp k0 (ak c0)⟩) | .inr (.inl ())=>(.ret,⟨[(4,(I 6))],[],ad hp k0 (ak c0)⟩) | .inr (.inr (z1,z2))=>((.ex 0),⟨[(0,(.p k0 0)),(3,(.p ⟨dp,3⟩ 0)),(13,(.l 3 (a0.Params.map (I)))),(14,(I (a0.Params.length:Int))),(15,(I (z1:Int))),(16,(.b z2))],[(3,(bL a0))],ad hp k0 (ak c0)⟩)
theorem uV(hk_k0:k0.dp<dp)(hz:bm dp hp)(c0:Checker)(a0:Func)(v0_15:Nat)(o:Nat⊕(Unit⊕(Unit⊕(Nat×Bool))))(h:iy c0 a0 v0_15=some o):bu ⟨dp,false⟩ L3 (vG dp hp k0 c0 a0) (vH dp hp k0 c0 a0) v0_15 o:=
 bD (.or (bt<|ao (.n v0_15)<|xI fun y3=>.or (bf<|bf<|bf<|bf<|bf<|bf<|bf<|bf<|bt<|bt<|.nil) (B3<|ao (.l (ak c0))<|bt<|ao (.i (c0.p.Vars.length:Int))<|fF<|oN (bt<|ao (.n v0_15)<|ao (.l (((a0.Params.take v0_15).drop 0).map (I)))<|xB fun r8=>oN (ao (.i ((v0_15+1:Nat):Int))<|.nil)))) (bf<|.nil)) fun L=>bB h (fun h2 h=>ai (decide_eq_true h2)<|ai (rI v0_15)<|ba h fun y3 h4 h=>ai (ay (I) h4)<|bB h (fun h5 h=>ai (g0 (decide_eq_true h5))<|ai (g0 (decide_eq_true h5))<|ai (g0 (decide_eq_true h5))<|ai (g0 (decide_eq_true h5))<|ai (g0 (decide_eq_true h5))<|ai (g0 (decide_eq_true h5))<|ai (g0 (decide_eq_true h5))<|ai (g0 (decide_eq_true h5))<|ai (decide_eq_true h5)<|ai tt<|L h) (fun h5 h=>ai (g0 (decide_eq_false h5))<|ai (g0 (decide_eq_false h5))<|ai (g0 (decide_eq_false h5))<|ai (g0 (decide_eq_false h5))<|ai (g0 (decide_eq_false h5))<|ai (g0 (decide_eq_false h5))<|ai (Nat.ne_of_lt hk_k0)<|ai (aq hp k0 (ak c0))<|ai (g0 (decide_eq_false h5))<|ai (ax bH c0.p.Vars)<|nX (decide_eq_false h5)<|bB h (fun h6 h=>ai (decide_eq_true h6)<|L h) (fun h6 h=>ai (decide_eq_false h6)<|ai (rN dp)<|ai (rI v0_15)<|ai ((by decide):3≠0)<|ai ((dR (I) (n:=1) (fun _=>rfl) a0.Params):(a0.Params.map (I)).all (fun e=>e.nc==1)=true)<|ai (Nat.zero_le _:0≤v0_15)<|aA h fun h7 h=>ai ((by rw [List.length_map];exact h7):v0_15≤(a0.Params.map (I)).length)<|ai (ER (I) a0.Params 0 v0_15)<|aB h (sR ((a0.Params.take v0_15).drop 0) y3) fun r8 h=>aM h (fun h10 h=>ai h10<|L h) (fun h10 h=>ai h10<|aA h fun w11 h=>ai w11<|L h)))) (fun h2 h=>ai (decide_eq_false h2)<|L h)
abbrev xQ(dp:Nat)(hp:HP)(k0:Key)(c0:Checker)(a0:Func)(r:Int):bh×HP:=(.ret (I r),ad hp k0 (ak c0))
def jK:Option Int:=
 if 4<(a0.Params.length:Int) then
  some 2
 else
  (lp (fun v=>iy c0 a0 v) 0).bind fun (x2:(Unit⊕(Unit⊕(Nat×Bool))))=>match x2 with
  | .inl ya_3=>
   some 5
  | .inr (.inl yb_3)=>
   some 6
  | .inr (.inr yc_3)=>
   (fc c0 a0.Body).bind fun (r5:Int)=>
   if (r5 !=0)=true then
    some r5
   else
    (iV a0.Result (c0.p.Vars.length:Int)).bind fun (r8:Int)=>
    some r8
theorem uW(hk_k0:k0.dp<dp)(hz:bm dp hp)(c0:Checker)(a0:Func)(r:Int)(h:jK c0 a0=some r):call G Ω0 ⟨dp,false⟩ 53 [(.p k0 0),(.a (bL a0))] (ad hp k0 (ak c0))=some (xQ dp hp k0 c0 a0 r):=
 aO G53 (bt<|ao (.i (a0.Params.length:Int))<|oN (bt<|ao (.i (a0.Params.length:Int))<|.or (.ex fun (ya_3:Unit)=>ao (.lp .ret ⟨[(4,(I 5))],[],ad hp k0 (ak c0)⟩)<|.nil) (.or (.ex fun (yb_3:Unit)=>ao (.lp .ret ⟨[(4,(I 6))],[],ad hp k0 (ak c0)⟩)<|.nil) (.ex fun (yc_3:(Nat×Bool))=>ao (.lp (.ex 0) ⟨[(0,(.p k0 0)),(3,(.p ⟨dp,3⟩ 0)),(13,(.l 3 (a0.Params.map (I)))),(14,(I (a0.Params.length:Int))),(15,(I (yc_3.1:Int))),(16,(.b yc_3.2))],[(3,(bL a0))],ad hp k0 (ak c0)⟩)<|bt<|xI fun r5=>ao (.h (boxes dp [(3,(bL a0))] (ad hp k0 (ak c0))))<|ao (.bx [(3,(bL a0))])<|ao (.h (ad hp k0 (ak c0)))<|oN (fF<|ao (.l (ak c0))<|ao (.i (c0.p.Vars.length:Int))<|xI fun r8=>.nil))))) fun L=>ai ((by simp [bL,AV.aQ,AV.aN,AV.deep,AV.b6,aG hk_k0,Nat.le_of_lt hk_k0]):(((.a (bL a0)):AV).deep dp&&(([(0,(.p k0 0)),(1,(.a (bL a0)))]:List (Nat×AV)).all (fun y=>y.2.aQ ⟨dp,3⟩)&&([]:List (Nat×List AV)).all (fun y=>AV.aN ⟨dp,3⟩ y.2)))=true)<|ai (rN dp)<|ai (ax (I) a0.Params)<|bB h (fun h1 h=>ai (decide_eq_true h1)<|L h) (fun h1 h=>ai (decide_eq_false h1)<|ai (rN dp)<|ai (ax (I) a0.Params)<|IF h (cV (uV dp hp k0 hk_k0 hz c0 a0) 0) (fun ya_3 h=>L h) (fun yb_3 h=>L h) (fun yc_3 h=>ai (rN dp)<|gI<|ba h fun r5 ek6 h=>have ek6:=cO hk_k0 (mE (dp+1) (boxes dp [(3,(bL a0))] (ad hp k0 (ak c0))) k0 (Nat.lt_succ_of_lt hk_k0) (a9 (aH hk_k0 (hz))) c0 a0.Body _ ek6);ai ek6<|ai (er ek6 (by kernel_rfl) (by kernel_rfl))<|ai (et ek6 (aH hk_k0 (hz)))<|aM h (fun h7 h=>ai h7<|L h) (fun h7 h=>FC h7<|ai (rN dp)<|lK<|ai (Nat.ne_of_lt hk_k0)<|ai (aq hp k0 (ak c0))<|ai tt<|ai (ax bH c0.p.Vars)<|ai tt<|aB h (pF a0.Result (c0.p.Vars.length:Int)) fun r8 h=>L h)))
end
section
variable (a0:Program)
def jL(v0_22:Nat)(v0_18_8:Nat):Option ((Nat×Nat)⊕(Int⊕(Nat×Bool×Nat))):=
 if (v0_22:Int)<(a0.Funcs.length:Int) then
  (a0.Funcs[v0_22]?).bind fun (y8:Func)=>
  (jK (⟨a0,(v0_22:Int)⟩:Checker) y8).bind fun (r10:Int)=>
  if (r10 !=0)=true then
   some (.inr (.inl r10))
  else
   if IntKind.i64.wrap ((v0_22:Int)+1)=((v0_22+1:Nat):Int) then
    some (.inl (v0_22+1,v0_22))
   else none
 else
  some (.inr (.inr (v0_22,decide ((v0_22:Int)<(a0.Funcs.length:Int)),v0_18_8)))
abbrev Cq(v:(Nat×Nat)):St:=⟨[(1,(.p ⟨0,1⟩ 0)),(4,(.p ⟨0,18⟩ 0)),(20,(.l 82 (a0.Funcs.map bc))),(21,(I (a0.Funcs.length:Int))),(22,(I (v.1:Int)))],[(1,(ah a0)),(18,[(I a0.an.Many),(.l 115 (a0.an.Grants.map aF)),(.l 3 (a0.Speak.map (I))),(.l 89 (a0.Ins.map ar)),(.l 89 (a0.Outs.map ar)),(.l 91 (a0.Vars.map bH)),(.l 82 (a0.Funcs.map bc)),(.l 65 (a0.Main.map au)),(I (v.2:Int))])],H0⟩
abbrev Cr(x:(Int⊕(Nat×Bool×Nat))):aJ×St:=match x with | .inl z1=>(.ret,⟨[(2,(I z1))],[],H0⟩) | .inr (z1,z2,z3)=>((.ex 0),⟨[(1,(.p ⟨0,1⟩ 0)),(4,(.p ⟨0,18⟩ 0)),(20,(.l 82 (a0.Funcs.map bc))),(21,(I (a0.Funcs.length:Int))),(22,(I (z1:Int))),(23,(.b z2))],[(1,(ah a0)),(18,[(I a0.an.Many),(.l 115 (a0.an.Grants.map aF)),(.l 3 (a0.Speak.map (I))),(.l 89 (a0.Ins.map ar)),(.l 89 (a0.Outs.map ar)),(.l 91 (a0.Vars.map bH)),(.l 82 (a0.Funcs.map bc)),(.l 65 (a0.Main.map au)),(I (z3:Int))])],H0⟩)
theorem A0(v0_22:Nat)(v0_18_8:Nat)(o:(Nat×Nat)⊕(Int⊕(Nat×Bool×Nat)))(h:jL a0 v0_22 v0_18_8=some o):bu E0 LH (Cq a0) (Cr a0) (v0_22,v0_18_8) o:=
 bD (.or (bt<|ao (.n v0_22)<|.ex fun (y8:Func)=>ao (.v (.a (bL y8)))<|js<|xI fun r10=>ao (.h (boxes 0 [(1,(ah a0)),(6,(bL y8)),(18,[(I a0.an.Many),(.l 115 (a0.an.Grants.map aF)),(.l 3 (a0.Speak.map (I))),(.l 89 (a0.Ins.map ar)),(.l 89 (a0.Outs.map ar)),(.l 91 (a0.Vars.map bH)),(.l 82 (a0.Funcs.map bc)),(.l 65 (a0.Main.map au)),(I (v0_22:Int))])] H0))<|ao (.bx [(1,(ah a0)),(6,(bL y8)),(18,[(I a0.an.Many),(.l 115 (a0.an.Grants.map aF)),(.l 3 (a0.Speak.map (I))),(.l 89 (a0.Ins.map ar)),(.l 89 (a0.Outs.map ar)),(.l 91 (a0.Vars.map bH)),(.l 82 (a0.Funcs.map bc)),(.l 65 (a0.Main.map au)),(I (v0_22:Int))])])<|ao (.h (H0))<|oN (ao (.i ((v0_22+1:Nat):Int))<|.nil)) (bf<|.nil)) fun L=>bB h (fun h7 h=>ai (decide_eq_true h7)<|ai (rI v0_22)<|ba h fun y8 h9 h=>ai (ay bc h9)<|ai tt<|ai ff<|ai (rfl:Z0)<|ai tt<|ai (rfl:Z0)<|ai ff<|ai (rfl:Z0)<|ai tt<|ai (rfl:Z0)<|ai (rfl:Z0)<|ai ff<|ai tt<|ba h fun r10 ek11 h=>have ek11:call G Ω0 ⟨0+1,false⟩ 53 [(.p ⟨0,18⟩ 0),(.a (bL y8))] (boxes 0 [(1,(ah a0)),(6,(bL y8)),(18,[(I a0.an.Many),(.l 115 (a0.an.Grants.map aF)),(.l 3 (a0.Speak.map (I))),(.l 89 (a0.Ins.map ar)),(.l 89 (a0.Outs.map ar)),(.l 91 (a0.Vars.map bH)),(.l 82 (a0.Funcs.map bc)),(.l 65 (a0.Main.map au)),(I (v0_22:Int))])] H0)=some (.ret (I r10),boxes 0 [(1,(ah a0)),(6,(bL y8)),(18,[(I a0.an.Many),(.l 115 (a0.an.Grants.map aF)),(.l 3 (a0.Speak.map (I))),(.l 89 (a0.Ins.map ar)),(.l 89 (a0.Outs.map ar)),(.l 91 (a0.Vars.map bH)),(.l 82 (a0.Funcs.map bc)),(.l 65 (a0.Main.map au)),(I (v0_22:Int))])] H0):=ey (cY (bx1:=[(1,(ah a0)),(6,(bL y8)),(18,[(I a0.an.Many),(.l 115 (a0.an.Grants.map aF)),(.l 3 (a0.Speak.map (I))),(.l 89 (a0.Ins.map ar)),(.l 89 (a0.Outs.map ar)),(.l 91 (a0.Vars.map bH)),(.l 82 (a0.Funcs.map bc)),(.l 65 (a0.Main.map au)),(I (v0_22:Int))])]) (by kernel_rfl) (by kernel_rfl)) (cY (bx1:=[(1,(ah a0)),(6,(bL y8)),(18,[(I a0.an.Many),(.l 115 (a0.an.Grants.map aF)),(.l 3 (a0.Speak.map (I))),(.l 89 (a0.Ins.map ar)),(.l 89 (a0.Outs.map ar)),(.l 91 (a0.Vars.map bH)),(.l 82 (a0.Funcs.map bc)),(.l 65 (a0.Main.map au)),(I (v0_22:Int))])]) (by kernel_rfl) (by kernel_rfl)) (uW (0+1) (boxes 0 [(1,(ah a0)),(6,(bL y8)),(18,[(I a0.an.Many),(.l 115 (a0.an.Grants.map aF)),(.l 3 (a0.Speak.map (I))),(.l 89 (a0.Ins.map ar)),(.l 89 (a0.Outs.map ar)),(.l 91 (a0.Vars.map bH)),(.l 82 (a0.Funcs.map bc)),(.l 65 (a0.Main.map au)),(I (v0_22:Int))])] H0) ⟨0,18⟩ (Nat.lt_succ_self 0) (a9 (dw 0)) (⟨a0,(v0_22:Int)⟩:Checker) y8 _ ek11);ai ek11<|ai (er ek11 (by kernel_rfl) (by kernel_rfl))<|ai (et ek11 (dw 0))<|aM h (fun h12 h=>ai h12<|L h) (fun h12 h=>ai h12<|aA h fun w13 h=>ai w13<|L h)) (fun h7 h=>ai (decide_eq_false h7)<|L h)
abbrev EX(a0:Program)(r:Int):bh×HP:=(.ret (I r),H0)
def oO:Option Int:=
 (pI a0).bind fun (r1:Int)=>
 if (r1 !=0)=true then
  some r1
 else
  (qJ a0).bind fun (r4:Bool)=>
  if r4=true then
   (lp (fun v=>jL a0 v.1 v.2) (0,0)).bind fun (x7:(Int⊕(Nat×Bool×Nat)))=>match x7 with
   | .inl ya_8=>
    some ya_8
   | .inr yb_8=>
    (fc (⟨a0,(a0.Funcs.length:Int)⟩:Checker) a0.Main).bind fun (r10:Int)=>
    some r10
  else
   some 2
theorem A1(r:Int)(h:oO a0=some r):call G Ω0 E0 24 [(.a (ah a0))] H0=some (EX a0 r):=
 aO G24 (bt<|xI fun r1=>oN (bt<|xB fun r4=>.or (bf<|bt<|bt<|ao (.i (a0.Funcs.length:Int))<|.or (.ex fun (ya_8:Int)=>ao (.lp .ret ⟨[(2,(I ya_8))],[],H0⟩)<|.nil) (.ex fun (yb_8:(Nat×Bool×Nat))=>ao (.lp (.ex 0) ⟨[(1,(.p ⟨0,1⟩ 0)),(4,(.p ⟨0,18⟩ 0)),(20,(.l 82 (a0.Funcs.map bc))),(21,(I (a0.Funcs.length:Int))),(22,(I (yb_8.1:Int))),(23,(.b yb_8.2.1))],[(1,(ah a0)),(18,[(I a0.an.Many),(.l 115 (a0.an.Grants.map aF)),(.l 3 (a0.Speak.map (I))),(.l 89 (a0.Ins.map ar)),(.l 89 (a0.Outs.map ar)),(.l 91 (a0.Vars.map bH)),(.l 82 (a0.Funcs.map bc)),(.l 65 (a0.Main.map au)),(I (yb_8.2.2:Int))])],H0⟩)<|bt<|ao (.i (a0.Funcs.length:Int))<|cR<|xI fun r10=>ao (.h (boxes 0 [(1,(ah a0)),(18,[(I a0.an.Many),(.l 115 (a0.an.Grants.map aF)),(.l 3 (a0.Speak.map (I))),(.l 89 (a0.Ins.map ar)),(.l 89 (a0.Outs.map ar)),(.l 91 (a0.Vars.map bH)),(.l 82 (a0.Funcs.map bc)),(.l 65 (a0.Main.map au)),(I (a0.Funcs.length:Int))])] H0))<|ao (.bx [(1,(ah a0)),(18,[(I a0.an.Many),(.l 115 (a0.an.Grants.map aF)),(.l 3 (a0.Speak.map (I))),(.l 89 (a0.Ins.map ar)),(.l 89 (a0.Outs.map ar)),(.l 91 (a0.Vars.map bH)),(.l 82 (a0.Funcs.map bc)),(.l 65 (a0.Main.map au)),(I (a0.Funcs.length:Int))])])<|ao (.h (H0))<|.nil)) (bt<|.nil))) fun L=>pC<|aB h (Cp a0) fun r1 h=>aM h (fun h3 h=>ai h3<|L h) (fun h3 h=>jr h3<|aB h (DN a0) fun r4 h=>aM h (fun h6 h=>ai (congrArg not h6)<|ai (rfl:Z0)<|ai tt<|ai (rfl:Z0)<|ai (ax bc a0.Funcs)<|bO h (cV (fun v=>A0 a0 v.1 v.2) (0,0)) (fun ya_8 h=>L h) (fun yb_8 h=>ai (rfl:Z0)<|ai (ax bc a0.Funcs)<|ai ff<|ai (rfl:Z0)<|ai tt<|ai (rfl:Z0)<|ai (rfl:Z0)<|ai ff<|ai tt<|ba h fun r10 ek11 h=>have ek11:call G Ω0 ⟨0+1,false⟩ 54 [(.p ⟨0,18⟩ 0),(.l 65 (a0.Main.map au))] (boxes 0 [(1,(ah a0)),(18,[(I a0.an.Many),(.l 115 (a0.an.Grants.map aF)),(.l 3 (a0.Speak.map (I))),(.l 89 (a0.Ins.map ar)),(.l 89 (a0.Outs.map ar)),(.l 91 (a0.Vars.map bH)),(.l 82 (a0.Funcs.map bc)),(.l 65 (a0.Main.map au)),(I (a0.Funcs.length:Int))])] H0)=some (.ret (I r10),boxes 0 [(1,(ah a0)),(18,[(I a0.an.Many),(.l 115 (a0.an.Grants.map aF)),(.l 3 (a0.Speak.map (I))),(.l 89 (a0.Ins.map ar)),(.l 89 (a0.Outs.map ar)),(.l 91 (a0.Vars.map bH)),(.l 82 (a0.Funcs.map bc)),(.l 65 (a0.Main.map au)),(I (a0.Funcs.length:Int))])] H0):=ey (cY (bx1:=[(1,(ah a0)),(18,[(I a0.an.Many),(.l 115 (a0.an.Grants.map aF)),(.l 3 (a0.Speak.map (I))),(.l 89 (a0.Ins.map ar)),(.l 89 (a0.Outs.map ar)),(.l 91 (a0.Vars.map bH)),(.l 82 (a0.Funcs.map bc)),(.l 65 (a0.Main.map au)),(I (a0.Funcs.length:Int))])]) (by kernel_rfl) (by kernel_rfl)) (cY (bx1:=[(1,(ah a0)),(18,[(I a0.an.Many),(.l 115 (a0.an.Grants.map aF)),(.l 3 (a0.Speak.map (I))),(.l 89 (a0.Ins.map ar)),(.l 89 (a0.Outs.map ar)),(.l 91 (a0.Vars.map bH)),(.l 82 (a0.Funcs.map bc)),(.l 65 (a0.Main.map au)),(I (a0.Funcs.length:Int))])]) (by kernel_rfl) (by kernel_rfl)) (mE (0+1) (boxes 0 [(1,(ah a0)),(18,[(I a0.an.Many),(.l 115 (a0.an.Grants.map aF)),(.l 3 (a0.Speak.map (I))),(.l 89 (a0.Ins.map ar)),(.l 89 (a0.Outs.map ar)),(.l 91 (a0.Vars.map bH)),(.l 82 (a0.Funcs.map bc)),(.l 65 (a0.Main.map au)),(I (a0.Funcs.length:Int))])] H0) ⟨0,18⟩ (Nat.lt_succ_self 0) (a9 (dw 0)) (⟨a0,(a0.Funcs.length:Int)⟩:Checker) a0.Main _ ek11);ai ek11<|ai (er ek11 (by kernel_rfl) (by kernel_rfl))<|ai (et ek11 (dw 0))<|L h)) (fun h6 h=>ai (congrArg not h6)<|L h))
end
section
variable (a0:(List Int))
abbrev EY(a0:(List Int))(r:Bool):bh×HP:=(.ret (.b r),H0)
def rG:Option Bool:=
 some (decide (100<(a0.length:Int)))
theorem A2(r:Bool)(h:rG a0=some r):call G Ω0 E0 26 [(.l 3 (a0.map (I)))] H0=some (EY a0 r):=
 aO G26 (ao (.i (a0.length:Int))<|.nil) fun L=>ai (ax (I) a0)<|L h
end
section
variable (a0:(List (List Int)))
def iH(v0_8:Nat):Option (Nat⊕(Nat⊕(Nat×Bool))):=
 if (v0_8:Int)<(a0.length:Int) then
  (a0[v0_8]?).bind fun (y2:(List Int))=>
  (rG y2).bind fun (r4:Bool)=>
  if r4=true then
   some (.inr (.inl v0_8))
  else
   if IntKind.i64.wrap ((v0_8:Int)+1)=((v0_8+1:Nat):Int) then
    some (.inl (v0_8+1))
   else none
 else
  some (.inr (.inr (v0_8,decide ((v0_8:Int)<(a0.length:Int)))))
abbrev oy(v:Nat):St:=⟨[(0,(.l 25 (a0.map (bM 3 (I))))),(1,(.f 26 [])),(7,(I (a0.length:Int))),(8,(I (v:Int)))],[],H0⟩
abbrev oz(x:(Nat⊕(Nat×Bool))):aJ×St:=match x with | .inl z1=>(.ret,⟨[(4,(I (z1:Int)))],[],H0⟩) | .inr (z1,z2)=>((.ex 0),⟨[(0,(.l 25 (a0.map (bM 3 (I))))),(1,(.f 26 [])),(7,(I (a0.length:Int))),(8,(I (z1:Int))),(9,(.b z2))],[],H0⟩)
theorem ob(v0_8:Nat)(o:Nat⊕(Nat⊕(Nat×Bool)))(h:iH a0 v0_8=some o):bu E0 Ix (oy a0) (oz a0) v0_8 o:=
 bD (.or (bt<|ao (.n v0_8)<|.ex fun (y2:(List Int))=>ao (.v (.l 3 (y2.map (I))))<|xB fun r4=>oN (ao (.i ((v0_8+1:Nat):Int))<|.nil)) (bf<|.nil)) fun L=>bB h (fun h1 h=>ai (decide_eq_true h1)<|ai (rI v0_8)<|ba h fun y2 h3 h=>ai (ay (bM 3 (I)) h3)<|aB h (A2 y2) fun r4 h=>aM h (fun h6 h=>ai h6<|L h) (fun h6 h=>ai h6<|aA h fun w7 h=>ai w7<|L h)) (fun h1 h=>ai (decide_eq_false h1)<|L h)
abbrev pv(a0:(List (List Int)))(r:Int):bh×HP:=(.ret (I r),H0)
def ju:Option Int:=
 (lp (fun v=>iH a0 v) 0).bind fun (x1:(Nat⊕(Nat×Bool)))=>match x1 with
 | .inl ya_2=>
  some (ya_2:Int)
 | .inr yb_2=>
  some (-1)
theorem oc(r:Int)(h:ju a0=some r):call G Ω0 E0 55 [(.l 25 (a0.map (bM 3 (I)))),(.f 26 [])] H0=some (pv a0 r):=
 aO ZR (ao (.i (a0.length:Int))<|.or (.ex fun (ya_2:Nat)=>ao (.lp .ret ⟨[(4,(I (ya_2:Int)))],[],H0⟩)<|.nil) (.ex fun (yb_2:(Nat×Bool))=>ao (.lp (.ex 0) ⟨[(0,(.l 25 (a0.map (bM 3 (I))))),(1,(.f 26 [])),(7,(I (a0.length:Int))),(8,(I (yb_2.1:Int))),(9,(.b yb_2.2))],[],H0⟩)<|.nil)) fun L=>ai (ax (bM 3 (I)) a0)<|bO h (cV (ob a0) 0) (fun ya_2 h=>L h) (fun yb_2 h=>L h)
abbrev od(a0:(List (List Int)))(r:Bool):bh×HP:=(.ret (.b r),H0)
def eL:Option Bool:=
 (ju a0).bind fun (r1:Int)=>
 some (decide (0≤r1))
theorem mn(r:Bool)(h:eL a0=some r):call G Ω0 E0 25 [(.l 25 (a0.map (bM 3 (I)))),(.f 26 [])] H0=some (od a0 r):=
 aO ZQ (xI fun r1=>.nil) fun L=>aB h (oc a0) fun r1 h=>L h
end
section
variable (a0:Int)
abbrev Cs(a0:Int)(r:Bool):bh×HP:=(.ret (.b r),H0)
def lX:Option Bool:=
 (pH a0).bind fun (r1:Bool)=>
 some (!r1)
theorem xR(r:Bool)(h:lX a0=some r):call G Ω0 E0 29 [(I a0)] H0=some (Cs a0 r):=
 aO G29 (xB fun r1=>.nil) fun L=>aB h (Ch a0) fun r1 h=>L h
end
section
variable (a0:(List Int))
def gC(v0_8:Nat):Option (Nat⊕(Nat⊕(Nat×Bool))):=
 if (v0_8:Int)<(a0.length:Int) then
  (a0[v0_8]?).bind fun (y2:Int)=>
  (lX y2).bind fun (r4:Bool)=>
  if r4=true then
   some (.inr (.inl v0_8))
  else
   if IntKind.i64.wrap ((v0_8:Int)+1)=((v0_8+1:Nat):Int) then
    some (.inl (v0_8+1))
   else none
 else
  some (.inr (.inr (v0_8,decide ((v0_8:Int)<(a0.length:Int)))))
abbrev nz(v:Nat):St:=⟨[(0,(.l 3 (a0.map (I)))),(1,(.f 29 [])),(7,(I (a0.length:Int))),(8,(I (v:Int)))],[],H0⟩
abbrev nA(x:(Nat⊕(Nat×Bool))):aJ×St:=match x with | .inl z1=>(.ret,⟨[(4,(I (z1:Int)))],[],H0⟩) | .inr (z1,z2)=>((.ex 0),⟨[(0,(.l 3 (a0.map (I)))),(1,(.f 29 [])),(7,(I (a0.length:Int))),(8,(I (z1:Int))),(9,(.b z2))],[],H0⟩)
theorem mF(v0_8:Nat)(o:Nat⊕(Nat⊕(Nat×Bool)))(h:gC a0 v0_8=some o):bu E0 Fb (nz a0) (nA a0) v0_8 o:=
 bD (.or (bt<|ao (.n v0_8)<|xI fun y2=>xB fun r4=>oN (ao (.i ((v0_8+1:Nat):Int))<|.nil)) (bf<|.nil)) fun L=>bB h (fun h1 h=>ai (decide_eq_true h1)<|ai (rI v0_8)<|ba h fun y2 h3 h=>ai (ay (I) h3)<|aB h (xR y2) fun r4 h=>aM h (fun h6 h=>ai h6<|L h) (fun h6 h=>ai h6<|aA h fun w7 h=>ai w7<|L h)) (fun h1 h=>ai (decide_eq_false h1)<|L h)
abbrev oA(a0:(List Int))(r:Int):bh×HP:=(.ret (I r),H0)
def iI:Option Int:=
 (lp (fun v=>gC a0 v) 0).bind fun (x1:(Nat⊕(Nat×Bool)))=>match x1 with
 | .inl ya_2=>
  some (ya_2:Int)
 | .inr yb_2=>
  some (-1)
theorem mG(r:Int)(h:iI a0=some r):call G Ω0 E0 56 [(.l 3 (a0.map (I))),(.f 29 [])] H0=some (oA a0 r):=
 aO PZ (ao (.i (a0.length:Int))<|.or (.ex fun (ya_2:Nat)=>ao (.lp .ret ⟨[(4,(I (ya_2:Int)))],[],H0⟩)<|.nil) (.ex fun (yb_2:(Nat×Bool))=>ao (.lp (.ex 0) ⟨[(0,(.l 3 (a0.map (I)))),(1,(.f 29 [])),(7,(I (a0.length:Int))),(8,(I (yb_2.1:Int))),(9,(.b yb_2.2))],[],H0⟩)<|.nil)) fun L=>ai (ax (I) a0)<|bO h (cV (mF a0) 0) (fun ya_2 h=>L h) (fun yb_2 h=>L h)
abbrev mH(a0:(List Int))(r:Bool):bh×HP:=(.ret (.b r),H0)
def eg:Option Bool:=
 (iI a0).bind fun (r1:Int)=>
 some (decide (0≤r1))
theorem lD(r:Bool)(h:eg a0=some r):call G Ω0 E0 28 [(.l 3 (a0.map (I))),(.f 29 [])] H0=some (mH a0 r):=
 aO PY (xI fun r1=>.nil) fun L=>aB h (mG a0) fun r1 h=>L h
abbrev EZ(a0:(List Int))(r:Bool):bh×HP:=(.ret (.b r),H0)
def oP:Option Bool:=
 (eg a0).bind fun (r1:Bool)=>
 some r1
theorem A3(r:Bool)(h:oP a0=some r):call G Ω0 E0 27 [(.l 3 (a0.map (I)))] H0=some (EZ a0 r):=
 aO G27 (xB fun r1=>.nil) fun L=>aB h (lD a0) fun r1 h=>L h
end
section
variable (a0:(List (List Int)))
def iJ(v0_8:Nat):Option (Nat⊕(Nat⊕(Nat×Bool))):=
 if (v0_8:Int)<(a0.length:Int) then
  (a0[v0_8]?).bind fun (y2:(List Int))=>
  (oP y2).bind fun (r4:Bool)=>
  if r4=true then
   some (.inr (.inl v0_8))
  else
   if IntKind.i64.wrap ((v0_8:Int)+1)=((v0_8+1:Nat):Int) then
    some (.inl (v0_8+1))
   else none
 else
  some (.inr (.inr (v0_8,decide ((v0_8:Int)<(a0.length:Int)))))
abbrev oB(v:Nat):St:=⟨[(0,(.l 25 (a0.map (bM 3 (I))))),(1,(.f 27 [])),(7,(I (a0.length:Int))),(8,(I (v:Int)))],[],H0⟩
abbrev oC(x:(Nat⊕(Nat×Bool))):aJ×St:=match x with | .inl z1=>(.ret,⟨[(4,(I (z1:Int)))],[],H0⟩) | .inr (z1,z2)=>((.ex 0),⟨[(0,(.l 25 (a0.map (bM 3 (I))))),(1,(.f 27 [])),(7,(I (a0.length:Int))),(8,(I (z1:Int))),(9,(.b z2))],[],H0⟩)
theorem oe(v0_8:Nat)(o:Nat⊕(Nat⊕(Nat×Bool)))(h:iJ a0 v0_8=some o):bu E0 Ix (oB a0) (oC a0) v0_8 o:=
 bD (.or (bt<|ao (.n v0_8)<|.ex fun (y2:(List Int))=>ao (.v (.l 3 (y2.map (I))))<|xB fun r4=>oN (ao (.i ((v0_8+1:Nat):Int))<|.nil)) (bf<|.nil)) fun L=>bB h (fun h1 h=>ai (decide_eq_true h1)<|ai (rI v0_8)<|ba h fun y2 h3 h=>ai (ay (bM 3 (I)) h3)<|aB h (A3 y2) fun r4 h=>aM h (fun h6 h=>ai h6<|L h) (fun h6 h=>ai h6<|aA h fun w7 h=>ai w7<|L h)) (fun h1 h=>ai (decide_eq_false h1)<|L h)
abbrev pw(a0:(List (List Int)))(r:Int):bh×HP:=(.ret (I r),H0)
def jv:Option Int:=
 (lp (fun v=>iJ a0 v) 0).bind fun (x1:(Nat⊕(Nat×Bool)))=>match x1 with
 | .inl ya_2=>
  some (ya_2:Int)
 | .inr yb_2=>
  some (-1)
theorem og(r:Int)(h:jv a0=some r):call G Ω0 E0 55 [(.l 25 (a0.map (bM 3 (I)))),(.f 27 [])] H0=some (pw a0 r):=
 aO ZR (ao (.i (a0.length:Int))<|.or (.ex fun (ya_2:Nat)=>ao (.lp .ret ⟨[(4,(I (ya_2:Int)))],[],H0⟩)<|.nil) (.ex fun (yb_2:(Nat×Bool))=>ao (.lp (.ex 0) ⟨[(0,(.l 25 (a0.map (bM 3 (I))))),(1,(.f 27 [])),(7,(I (a0.length:Int))),(8,(I (yb_2.1:Int))),(9,(.b yb_2.2))],[],H0⟩)<|.nil)) fun L=>ai (ax (bM 3 (I)) a0)<|bO h (cV (oe a0) 0) (fun ya_2 h=>L h) (fun yb_2 h=>L h)
abbrev oh(a0:(List (List Int)))(r:Bool):bh×HP:=(.ret (.b r),H0)
def eM:Option Bool:=
 (jv a0).bind fun (r1:Int)=>
 some (decide (0≤r1))
theorem mo(r:Bool)(h:eM a0=some r):call G Ω0 E0 25 [(.l 25 (a0.map (bM 3 (I)))),(.f 27 [])] H0=some (oh a0 r):=
 aO ZQ (xI fun r1=>.nil) fun L=>aB h (og a0) fun r1 h=>L h
end
section
variable (a0:Program)(a1:(List (List Int)))(a2:Int)
abbrev Hh(a0:Program)(a1:(List (List Int)))(a2:Int)(r:Int):bh×HP:=(.ret (I r),H0)
def qK:Option Int:=
 (oO a0).bind fun (r1:Int)=>
 if (r1 !=0)=true then
  some r1
 else
  if ((a1.length:Int) !=(a0.Ins.length:Int))=true then
   some 1
  else
   (eL a1).bind fun (r5:Bool)=>
   if r5=true then
    some 2
   else
    (eM a1).bind fun (r8:Bool)=>
    if r8=true then
     some 3
    else
     if a2<0 then
      some 3
     else
      if 2000<a2 then
       some 3
      else
       some 0
theorem DO(r:Int)(h:qK a0 a1 a2=some r):call G Ω0 E0 9 [(.a (ah a0)),(.l 25 (a1.map (bM 3 (I)))),(I a2)] H0=some (Hh a0 a1 a2 r):=
 aO G9 (bt<|xI fun r1=>oN (ao (.i (a1.length:Int))<|bt<|ao (.i (a0.Ins.length:Int))<|oN (xB fun r5=>oN (xB fun r8=>.or (bf<|bf<|bt<|bf<|bf<|bt<|bt<|.nil) (xK<|.or (bf<|bf<|bt<|bt<|.nil) (xK<|oN (.nil))))))) fun L=>pC<|aB h (A1 a0) fun r1 h=>aM h (fun h3 h=>ai h3<|L h) (fun h3 h=>ai h3<|ai (ax (bM 3 (I)) a1)<|ai (rfl:Z0)<|ai (ax ar a0.Ins)<|aM h (fun h4 h=>ai h4<|L h) (fun h4 h=>ai h4<|aB h (mn a1) fun r5 h=>aM h (fun h7 h=>ai h7<|L h) (fun h7 h=>ai h7<|aB h (mo a1) fun r8 h=>aM h (fun h10 h=>ai (g0 h10)<|ai (g0 h10)<|ai h10<|ai ht<|ai ht<|ai tt<|ai tt<|L h) (fun h10 h=>AH h10<|bB h (fun h11 h=>ai (g0 (decide_eq_true h11))<|ai (g0 (decide_eq_true h11))<|ai (decide_eq_true h11)<|ai tt<|L h) (fun h11 h=>AH (decide_eq_false h11)<|bB h (fun h12 h=>ai (decide_eq_true h12)<|L h) (fun h12 h=>ai (decide_eq_false h12)<|L h))))))
end
section
variable (dp:Nat)(hp:HP)(k0:Key)
abbrev FT(dp:Nat)(hp:HP)(k0:Key)(a0:Stmt)(a1:Int)(c0:Int)(r:(Bool×Int)):bh×HP:=(.ret (.b r.1),ad hp k0 [(I r.2)])
def sX(a0:Stmt)(a1:Int)(c0:Int):Option (Bool×Int):=
 if IntKind.i64.wrap (c0+1)=c0+1 then
  some (true,(c0+1))
 else none
theorem Ct(hk_k0:k0.dp<dp)(hz:bm dp hp)(a0:Stmt)(a1:Int)(c0:Int)(r:(Bool×Int))(h:sX a0 a1 c0=some r):call G Ω0 ⟨dp,false⟩ 58 [(.a (af a0)),(I a1),(.p k0 0)] (ad hp k0 [(I c0)])=some (FT dp hp k0 a0 a1 c0 r):=
 aO G58 (bf<|ao (.l [(I c0)])<|ao (.i (c0+1))<|bf<|ao (.l [(I c0)])<|bf<|ao (.h (ad hp k0 [(I (c0+1))]))<|.nil) fun L=>ai ((by simp [af,AV.aQ,AV.aN,AV.deep,AV.b6,aG hk_k0,Nat.le_of_lt hk_k0]):(((.a (af a0)):AV).deep dp&&(([(0,(.a (af a0))),(1,(I a1)),(2,(.p k0 0))]:List (Nat×AV)).all (fun y=>y.2.aQ ⟨dp,3⟩)&&([]:List (Nat×List AV)).all (fun y=>AV.aN ⟨dp,3⟩ y.2)))=true)<|ai (Nat.ne_of_lt hk_k0)<|ai (aq hp k0 [(I c0)])<|aA h fun w1 h=>ai w1<|ai ff<|ai (Nat.ne_of_lt hk_k0)<|ai (aq hp k0 [(I c0)])<|ai tt<|ai (Nat.ne_of_lt hk_k0)<|ai (aV hp k0 [(I c0)] [(I (c0+1))])<|L h
end
section
variable (dp:Nat)(hp:HP)(k0:Key)(a0:(List Stmt))(a1:Int)(c0:Int)
abbrev sY(dp:Nat)(hp:HP)(k0:Key)(a0:(List Stmt))(a1:Int)(c0:Int)(r:(Bool×Int)):bh×HP:=(.ret (.b r.1),ad hp k0 [(I r.2)])
abbrev je(r:(Bool×Int)):Prop:=call G Ω0 ⟨dp,false⟩ 57 [(.l 65 (a0.map au)),(I a1),(.f 58 [(.p k0 0)])] (ad hp k0 [(I c0)])=some (sY dp hp k0 a0 a1 c0 r)
end
structure jf where
 f_scope_Walk__run_Many_1:(List Stmt)→Int→Int→Option (Bool×Int)
structure iz(R:jf):Prop where
 f_scope_Walk__run_Many_1:∀ (dp:Nat)(hp:HP)(k0:Key)(hk_k0:k0.dp<dp)(hz:bm dp hp)(a0:(List Stmt))(a1:Int)(c0:Int)(r:(Bool×Int)),R.f_scope_Walk__run_Many_1 a0 a1 c0=some r→je dp hp k0 a0 a1 c0 r
section
variable (R:jf)(a0:(List Stmt))(a1:Int)(dp:Nat)(hp:HP)(k0:Key)(c0:Int)
def eZ(v0_11:Nat)(v0_k0_0:Int):Option ((Nat×Int)⊕(Int⊕(Nat×Bool×Int))):=
 if (v0_11:Int)<(a0.length:Int) then
  (a0[v0_11]?).bind fun (y2:Stmt)=>
  (sX y2 a1 v0_k0_0).bind fun (r4:(Bool×Int))=>
  if r4.1=true then
   if IntKind.i64.wrap (a1+1)=a1+1 then
    (R.f_scope_Walk__run_Many_1 y2.Then (a1+1) r4.2).bind fun (r8:(Bool×Int))=>
    if r8.1=true then
     (R.f_scope_Walk__run_Many_1 y2.Else (a1+1) r8.2).bind fun (r11:(Bool×Int))=>
     if r11.1=true then
      if IntKind.i64.wrap ((v0_11:Int)+1)=((v0_11+1:Nat):Int) then
       some (.inl (v0_11+1,r11.2))
      else none
     else
      some (.inr (.inl r11.2))
    else
     some (.inr (.inl r8.2))
   else none
  else
   some (.inr (.inl r4.2))
 else
  some (.inr (.inr (v0_11,decide ((v0_11:Int)<(a0.length:Int)),v0_k0_0)))
abbrev rH(dp:Nat)(hp:HP)(k0:Key)(a0:(List Stmt))(a1:Int)(v:(Nat×Int)):St:=⟨[(1,(I a1)),(2,(.f 58 [(.p k0 0)])),(9,(.l 65 (a0.map au))),(10,(I (a0.length:Int))),(11,(I (v.1:Int)))],[],ad hp k0 [(I v.2)]⟩
abbrev rJ(dp:Nat)(hp:HP)(k0:Key)(a0:(List Stmt))(a1:Int)(x:(Int⊕(Nat×Bool×Int))):aJ×St:=match x with | .inl z1=>(.ret,⟨[(6,(.b false))],[],ad hp k0 [(I z1)]⟩) | .inr (z1,z2,z3)=>((.ex 0),⟨[(1,(I a1)),(2,(.f 58 [(.p k0 0)])),(9,(.l 65 (a0.map au))),(10,(I (a0.length:Int))),(11,(I (z1:Int))),(12,(.b z2))],[],ad hp k0 [(I z3)]⟩)
theorem q9(hR:iz R)(dp:Nat)(hp:HP)(k0:Key)(hk_k0:k0.dp<dp)(hz:bm dp hp)(a0:(List Stmt))(a1:Int)(v0_11:Nat)(v0_k0_0:Int)(o:(Nat×Int)⊕(Int⊕(Nat×Bool×Int)))(h:eZ R a0 a1 v0_11 v0_k0_0=some o):bu ⟨dp,false⟩ Fc (rH dp hp k0 a0 a1) (rJ dp hp k0 a0 a1) (v0_11,v0_k0_0) o:=
 bD (.or (bt<|ao (.n v0_11)<|.ex fun (y2:Stmt)=>ao (.v (.a (af y2)))<|cR<|.ex fun (r4:(Bool×Int))=>ao (.v (.b r4.1))<|ao (.h (boxes dp [(8,(af y2))] (ad hp k0 [(I r4.2)])))<|ao (.bx [(8,(af y2))])<|ao (.h (ad hp k0 [(I r4.2)]))<|.or (js<|ao (.i (a1+1))<|b5<|.ex fun (r8:(Bool×Int))=>ao (.v (.b r8.1))<|ao (.h (boxes dp [(8,(af y2))] (ad hp k0 [(I r8.2)])))<|ao (.bx [(8,(af y2))])<|ao (.h (ad hp k0 [(I r8.2)]))<|fF<|.or (js<|ao (.i (a1+1))<|b5<|.ex fun (r11:(Bool×Int))=>ao (.v (.b r11.1))<|ao (.h (boxes dp [(8,(af y2))] (ad hp k0 [(I r11.2)])))<|ao (.bx [(8,(af y2))])<|ao (.h (ad hp k0 [(I r11.2)]))<|fF<|.or (bf<|ao (.i ((v0_11+1:Nat):Int))<|.nil) (bt<|.nil)) (KB<|.nil)) (KC<|.nil)) (bf<|.nil)) fun L=>bB h (fun h1 h=>ai (decide_eq_true h1)<|ai (rI v0_11)<|ba h fun y2 h3 h=>ai (cF au h3 (ea _))<|ai ((by simp [af,AV.aQ,AV.aN,AV.deep,AV.b6,aG hk_k0,Nat.le_of_lt hk_k0]):(([(14,(.a (af y2))),(13,(.e (.a (af y2)) 0)),(1,(I a1)),(2,(.f 58 [(.p k0 0)])),(9,(.l 65 (a0.map au))),(10,(I (a0.length:Int))),(11,(I (v0_11:Int)))]:List (Nat×AV)).all (fun y=>y.2.aQ ⟨dp,8⟩)&&([]:List (Nat×List AV)).all (fun y=>AV.aN ⟨dp,8⟩ y.2))=true)<|ai ff<|ai (rN dp)<|ai tt<|ai (rN dp)<|ai (rN dp)<|gI<|ba h fun r4 ek5 h=>have ek5:=cO hk_k0 (Ct (dp+1) (boxes dp [(8,(af y2))] (ad hp k0 [(I v0_k0_0)])) k0 (Nat.lt_succ_of_lt hk_k0) (a9 (aH hk_k0 (hz))) y2 a1 v0_k0_0 _ ek5);ai ek5<|ai (er ek5 (by kernel_rfl) (by kernel_rfl))<|ai (et ek5 (aH hk_k0 (hz)))<|aM h (fun h6 h=>lJ (congrArg not h6)<|ai (rN dp)<|lJ (congrArg not h6)<|aA h fun w7 h=>ai w7<|AF (congrArg not h6)<|ba h fun r8 ek9 h=>have ek9:=cO hk_k0 (hR.f_scope_Walk__run_Many_1 (dp+1) (boxes dp [(8,(af y2))] (ad hp k0 [(I r4.2)])) k0 (Nat.lt_succ_of_lt hk_k0) (a9 (aH hk_k0 (hz))) y2.Then (a1+1) r4.2 _ ek9);ai ek9<|ai (er ek9 (by kernel_rfl) (by kernel_rfl))<|ai (et ek9 (aH hk_k0 (hz)))<|nX (congrArg not h6)<|aM h (fun h10 h=>lJ (congrArg not h10)<|ai (rN dp)<|lJ (congrArg not h10)<|ai w7<|AF (congrArg not h10)<|ba h fun r11 ek12 h=>have ek12:=cO hk_k0 (hR.f_scope_Walk__run_Many_1 (dp+1) (boxes dp [(8,(af y2))] (ad hp k0 [(I r8.2)])) k0 (Nat.lt_succ_of_lt hk_k0) (a9 (aH hk_k0 (hz))) y2.Else (a1+1) r8.2 _ ek12);ai ek12<|ai (er ek12 (by kernel_rfl) (by kernel_rfl))<|ai (et ek12 (aH hk_k0 (hz)))<|nX (congrArg not h10)<|aM h (fun h13 h=>ai (congrArg not h13)<|aA h fun w14 h=>ai w14<|L h) (fun h13 h=>ai (congrArg not h13)<|L h)) (fun h10 h=>Ku (congrArg not h10)<|L h)) (fun h6 h=>Kv (congrArg not h6)<|L h)) (fun h1 h=>ai (decide_eq_false h1)<|L h)
def fh:Option (Bool×Int):=
 (lp (fun v=>eZ R a0 a1 v.1 v.2) (0,c0)).bind fun (x1:(Int⊕(Nat×Bool×Int)))=>match x1 with
 | .inl ya_2=>
  some (false,ya_2)
 | .inr yb_2=>
  some (true,yb_2.2.2)
theorem qu(hR:iz R)(dp:Nat)(hp:HP)(k0:Key)(hk_k0:k0.dp<dp)(hz:bm dp hp)(a0:(List Stmt))(a1:Int)(c0:Int)(r:(Bool×Int))(h:fh R a0 a1 c0=some r):je dp hp k0 a0 a1 c0 r:=
 aO P0 (ao (.i (a0.length:Int))<|.or (.ex fun (ya_2:Int)=>ao (.lp .ret ⟨[(6,(.b false))],[],ad hp k0 [(I ya_2)]⟩)<|.nil) (.ex fun (yb_2:(Nat×Bool×Int))=>ao (.lp (.ex 0) ⟨[(1,(I a1)),(2,(.f 58 [(.p k0 0)])),(9,(.l 65 (a0.map au))),(10,(I (a0.length:Int))),(11,(I (yb_2.1:Int))),(12,(.b yb_2.2.1))],[],ad hp k0 [(I yb_2.2.2)]⟩)<|.nil)) fun L=>ai (ax au a0)<|bO h (cV (fun v=>q9 R hR dp hp k0 hk_k0 hz a0 a1 v.1 v.2) (0,c0)) (fun ya_2 h=>L h) (fun yb_2 h=>L h)
def dy:Nat→jf
 | 0=>⟨fun z0 z1 z2=>none⟩
 | n+1=>⟨fh (dy n)⟩
theorem lZ:∀ n,iz (dy n)
 | 0=>⟨fun _ _ _ _ _ _ _ _ r h=>(by cases h)⟩
 | n+1=>⟨fun dp hp k0 hk_k0 hz a0 a1 c0 r h=>qu _ (lZ n) dp hp k0 hk_k0 hz a0 a1 c0 r h⟩
def jg:Option (Bool×Int):=ev fun n=>(dy n).f_scope_Walk__run_Many_1 a0 a1 c0
theorem ra(hk_k0:k0.dp<dp)(hz:bm dp hp)(a0:(List Stmt))(a1:Int)(c0:Int)(r:(Bool×Int))(h:jg a0 a1 c0=some r):je dp hp k0 a0 a1 c0 r:=by
 obtain ⟨n,hn⟩:=iO h
 exact (lZ n).f_scope_Walk__run_Many_1 dp hp k0 hk_k0 hz a0 a1 c0 r hn
abbrev IN(a0:(List Stmt))(r:Int):bh×HP:=(.ret (I r),H0)
def lg:Option Int:=
 (jg a0 1 0).bind fun (r1:(Bool×Int))=>
 some r1.2
theorem oQ(r:Int)(h:lg a0=some r):call G Ω0 E0 31 [(.l 65 (a0.map au))] H0=some (IN a0 r):=
 aO G31 (b5<|.ex fun (r1:(Bool×Int))=>ao (.v (.b r1.1))<|ao (.h (boxes 0 [(3,[(I r1.2)])] H0))<|ao (.bx [(3,[(I r1.2)])])<|ao (.h (H0))<|bt<|.nil) fun L=>ai tt<|ai ff<|ai (rfl:Z0)<|ai tt<|ai (rfl:Z0)<|ai ff<|ai tt<|ba h fun r1 ek2 h=>have ek2:call G Ω0 ⟨0+1,false⟩ 57 [(.l 65 (a0.map au)),(I 1),(.f 58 [(.p ⟨0,3⟩ 0)])] (boxes 0 [(3,[(I 0)])] H0)=some (.ret (.b r1.1),boxes 0 [(3,[(I r1.2)])] H0):=ey (cY (bx1:=[(3,[(I 0)])]) (by kernel_rfl) (by kernel_rfl)) (cY (bx1:=[(3,[(I r1.2)])]) (by kernel_rfl) (by kernel_rfl)) (ra (0+1) (boxes 0 [(3,[(I 0)])] H0) ⟨0,3⟩ (Nat.lt_succ_self 0) (a9 (dw 0)) a0 1 0 _ ek2);ai ek2<|ai (er ek2 (by kernel_rfl) (by kernel_rfl))<|ai (et ek2 (dw 0))<|ai (rfl:Z0)<|L h
end
section
variable (a0:Program)(a1:(List (List Int)))(a2:Int)(dp:Nat)(hp:HP)(k0:Key)(c0:Runner)
def qL(a1:(List (List Int)))(a2:Int)(v0_8:Int)(v0_35:Nat)(v0_15_10:(List Int)):Option ((Int×Nat×(List Int))⊕(Int×Nat×Bool×(List Int))):=
 if (v0_35:Int)<(a0.Funcs.length:Int) then
  (a0.Funcs[v0_35]?).bind fun (y4:Func)=>
  if v0_15_10.length + [v0_8].length≤1000000000 then
   (lg y4.Body).bind fun (r7:Int)=>
   if IntKind.i64.wrap (v0_8+r7)=v0_8+r7 then
    if IntKind.i64.wrap ((v0_35:Int)+1)=((v0_35+1:Nat):Int) then
     some (.inl (v0_8+r7,v0_35+1,v0_15_10++[v0_8]))
    else none
   else none
  else none
 else
  some (.inr (v0_8,v0_35,decide ((v0_35:Int)<(a0.Funcs.length:Int)),v0_15_10))
abbrev Hi(a0:Program)(a1:(List (List Int)))(a2:Int)(v:(Int×Nat×(List Int))):St:=⟨[(7,(.p ⟨dp,15⟩ 0)),(8,(I v.1)),(33,(.l 82 (a0.Funcs.map bc))),(34,(I (a0.Funcs.length:Int))),(35,(I (v.2.1:Int)))],[(15,[(I a0.an.Many),(.l 115 (a0.an.Grants.map aF)),(.l 3 (a0.Speak.map (I))),(.l 89 (a0.Ins.map ar)),(.l 89 (a0.Outs.map ar)),(.l 91 (a0.Vars.map bH)),(.l 82 (a0.Funcs.map bc)),(.l 65 (a0.Main.map au)),(.l 25 (a1.map (bM 3 (I)))),(I a2),(.o 3 (v.2.2.map (I))),(.o 73 (([]:List Event).map aw)),(.o 3 ((List.replicate a0.Vars.length 0).map (I))),(.o 3 ((List.replicate a0.Ins.length 0).map (I))),(I 0),(I 0),(I 0)])],hp⟩
abbrev Hj(a0:Program)(a1:(List (List Int)))(a2:Int)(x:(Int×Nat×Bool×(List Int))):aJ×St:=((.ex 0),⟨[(7,(.p ⟨dp,15⟩ 0)),(8,(I x.1)),(33,(.l 82 (a0.Funcs.map bc))),(34,(I (a0.Funcs.length:Int))),(35,(I (x.2.1:Int))),(36,(.b x.2.2.1))],[(15,[(I a0.an.Many),(.l 115 (a0.an.Grants.map aF)),(.l 3 (a0.Speak.map (I))),(.l 89 (a0.Ins.map ar)),(.l 89 (a0.Outs.map ar)),(.l 91 (a0.Vars.map bH)),(.l 82 (a0.Funcs.map bc)),(.l 65 (a0.Main.map au)),(.l 25 (a1.map (bM 3 (I)))),(I a2),(.o 3 (x.2.2.2.map (I))),(.o 73 (([]:List Event).map aw)),(.o 3 ((List.replicate a0.Vars.length 0).map (I))),(.o 3 ((List.replicate a0.Ins.length 0).map (I))),(I 0),(I 0),(I 0)])],hp⟩)
theorem FU(hz:bm dp hp)(a0:Program)(a1:(List (List Int)))(a2:Int)(v0_8:Int)(v0_35:Nat)(v0_15_10:(List Int))(o:(Int×Nat×(List Int))⊕(Int×Nat×Bool×(List Int)))(h:qL a0 a1 a2 v0_8 v0_35 v0_15_10=some o):bu ⟨dp,false⟩ Lm (Hi dp hp a0 a1 a2) (Hj dp hp a0 a1 a2) (v0_8,v0_35,v0_15_10) o:=
 bD (.or (bt<|ao (.n v0_35)<|.ex fun (y4:Func)=>ao (.v (.a (bL y4)))<|cR<|ao (.l ([v0_8].map (I)))<|cR<|ao (.l ((v0_15_10++[v0_8]).map (I)))<|cR<|xI fun r7=>ao (.i (v0_8+r7))<|ao (.i ((v0_35+1:Nat):Int))<|.nil) (bf<|.nil)) fun L=>bB h (fun h3 h=>ai (decide_eq_true h3)<|ai (rI v0_35)<|ba h fun y4 h5 h=>ai (ay bc h5)<|ai ((by simp [bL,AV.aQ,AV.aN,AV.deep,AV.b6]):(([(38,(.a (bL y4))),(37,(.e (.a (bL y4)) 0)),(7,(.p ⟨dp,15⟩ 0)),(8,(I v0_8)),(33,(.l 82 (a0.Funcs.map bc))),(34,(I (a0.Funcs.length:Int))),(35,(I (v0_35:Int)))]:List (Nat×AV)).all (fun y=>y.2.aQ ⟨dp,10⟩)&&([(15,[(I a0.an.Many),(.l 115 (a0.an.Grants.map aF)),(.l 3 (a0.Speak.map (I))),(.l 89 (a0.Ins.map ar)),(.l 89 (a0.Outs.map ar)),(.l 91 (a0.Vars.map bH)),(.l 82 (a0.Funcs.map bc)),(.l 65 (a0.Main.map au)),(.l 25 (a1.map (bM 3 (I)))),(I a2),(.o 3 (v0_15_10.map (I))),(.o 73 (([]:List Event).map aw)),(.o 3 ((List.replicate a0.Vars.length 0).map (I))),(.o 3 ((List.replicate a0.Ins.length 0).map (I))),(I 0),(I 0),(I 0)])]:List (Nat×List AV)).all (fun y=>AV.aN ⟨dp,10⟩ y.2))=true)<|ai ff<|ai (rN dp)<|ai tt<|ai (rN dp)<|ai (rN dp)<|ai (rfl:[(I v0_8)]=[v0_8].map (I))<|ai ff<|ai (rN dp)<|ai (rN dp)<|ai (rN dp)<|aA h fun h6 h=>ai ((dR (I) (n:=1) (fun _=>rfl) [v0_8]):([v0_8].map (I)).all (fun e=>e.nc==1)=true)<|ai ((fl h6 (by decide)):((v0_15_10.map (I)).length+([v0_8].map (I)).length)*8≤140737488355328)<|ai ((fm h6):(v0_15_10.map (I)).length+([v0_8].map (I)).length≤maxLen)<|ai (List.map_append.symm:v0_15_10.map (I)++[v0_8].map (I)=(v0_15_10++[v0_8]).map (I))<|ai ff<|ai (rN dp)<|ai (rN dp)<|ai (rN dp)<|aB h (oQ y4.Body) fun r7 h=>aA h fun w9 h=>ai w9<|aA h fun w10 h=>ai w10<|L h) (fun h3 h=>ai (decide_eq_false h3)<|L h)
abbrev Jz(dp:Nat)(hp:HP)(a0:Program)(a1:(List (List Int)))(a2:Int)(r:Runner):bh×HP:=(.new (aa r),hp)
def tV:Option Runner:=
 if a0.Vars.length≤1000000000 then
  if a0.Ins.length≤1000000000 then
   (lp (fun v=>qL a0 a1 a2 v.1 v.2.1 v.2.2) (0,0,([]:List Int))).bind fun (x3:(Int×Nat×Bool×(List Int)))=>
   if x3.2.2.2.length + [x3.1].length≤1000000000 then
    some (⟨a0,a1,a2,x3.2.2.2++[x3.1],(⟨([]:List Event),List.replicate a0.Vars.length 0,List.replicate a0.Ins.length 0,0,0,0⟩:RunT)⟩:Runner)
   else none
  else none
 else none
theorem FV(hz:bm dp hp)(a0:Program)(a1:(List (List Int)))(a2:Int)(r:Runner)(h:tV a0 a1 a2=some r):call G Ω0 ⟨dp,false⟩ 10 [(.a (ah a0)),(.l 25 (a1.map (bM 3 (I)))),(I a2)] hp=some (Jz dp hp a0 a1 a2 r):=
 MQ G10 (bt<|bt<|bt<|bt<|bt<|bt<|bt<|bt<|bt<|bt<|ao (.i (a0.Vars.length:Int))<|ao (.n a0.Vars.length)<|ao (.l ((List.replicate a0.Vars.length 0).map (I)))<|bt<|ao (.i (a0.Ins.length:Int))<|ao (.n a0.Ins.length)<|ao (.l ((List.replicate a0.Ins.length 0).map (I)))<|js<|ao (.i (a0.Funcs.length:Int))<|.ex fun (x3:(Int×Nat×Bool×(List Int)))=>ao (.lp (.ex 0) ⟨[(7,(.p ⟨dp,15⟩ 0)),(8,(I x3.1)),(33,(.l 82 (a0.Funcs.map bc))),(34,(I (a0.Funcs.length:Int))),(35,(I (x3.2.1:Int))),(36,(.b x3.2.2.1))],[(15,[(I a0.an.Many),(.l 115 (a0.an.Grants.map aF)),(.l 3 (a0.Speak.map (I))),(.l 89 (a0.Ins.map ar)),(.l 89 (a0.Outs.map ar)),(.l 91 (a0.Vars.map bH)),(.l 82 (a0.Funcs.map bc)),(.l 65 (a0.Main.map au)),(.l 25 (a1.map (bM 3 (I)))),(I a2),(.o 3 (x3.2.2.2.map (I))),(.o 73 (([]:List Event).map aw)),(.o 3 ((List.replicate a0.Vars.length 0).map (I))),(.o 3 ((List.replicate a0.Ins.length 0).map (I))),(I 0),(I 0),(I 0)])],hp⟩)<|bt<|ao (.l ([x3.1].map (I)))<|cR<|ao (.l ((x3.2.2.2++[x3.1]).map (I)))<|b5<|.nil) fun L=>ai tt<|ai (rN dp)<|ai ((by simp [ah,AV.aQ,AV.aN,AV.deep,AV.b6]):(((.a [(I a0.an.Many),(.l 115 (a0.an.Grants.map aF)),(.l 3 (a0.Speak.map (I))),(.l 89 (a0.Ins.map ar)),(.l 89 (a0.Outs.map ar)),(.l 91 (a0.Vars.map bH)),(.l 82 (a0.Funcs.map bc)),(.l 65 (a0.Main.map au)),(.l 25 (a1.map (bM 3 (I)))),(I a2),.n,.n,.n,.n,(I 0),(I 0),(I 0)]):AV).deep dp&&(([(14,(.a [(I a0.an.Many),(.l 115 (a0.an.Grants.map aF)),(.l 3 (a0.Speak.map (I))),(.l 89 (a0.Ins.map ar)),(.l 89 (a0.Outs.map ar)),(.l 91 (a0.Vars.map bH)),(.l 82 (a0.Funcs.map bc)),(.l 65 (a0.Main.map au)),(.l 25 (a1.map (bM 3 (I)))),(I a2),.n,.n,.n,.n,(I 0),(I 0),(I 0)])),(13,(I a2)),(12,(.l 25 (a1.map (bM 3 (I))))),(11,(.a (ah a0))),(1,(.l 25 (a1.map (bM 3 (I))))),(2,(I a2)),(3,(.p ⟨dp,3⟩ 0))]:List (Nat×AV)).all (fun y=>y.2.aQ ⟨dp,15⟩)&&([(3,(ah a0))]:List (Nat×List AV)).all (fun y=>AV.aN ⟨dp,15⟩ y.2)))=true)<|ai ff<|ai (rN dp)<|ai (rN dp)<|ai ff<|ai (rN dp)<|ai (rN dp)<|ai ff<|ai (rN dp)<|ai (rN dp)<|ai ff<|ai (rN dp)<|ai (rN dp)<|ai ((by simp [ah,cJ,aP,AV.aQ,AV.aN,AV.bI]):(([21,25]:List Nat).all (cJ dp (⟨[(3,(.p ⟨dp,3⟩ 0)),(7,(.p ⟨dp,15⟩ 0))],[(3,(ah a0)),(15,[(I a0.an.Many),(.l 115 (a0.an.Grants.map aF)),(.l 3 (a0.Speak.map (I))),(.l 89 (a0.Ins.map ar)),(.l 89 (a0.Outs.map ar)),(.l 91 (a0.Vars.map bH)),(.l 82 (a0.Funcs.map bc)),(.l 65 (a0.Main.map au)),(.l 25 (a1.map (bM 3 (I)))),(I a2),(.o 3 (([]:List Int).map (I))),(.o 73 (([]:List Event).map aw)),(.o 3 (([]:List Int).map (I))),(.o 3 (([]:List Int).map (I))),(I 0),(I 0),(I 0)])],H0⟩:St))&&true)=true)<|ai ((by simp [aR,okB,bY,AV.aQ,AV.aN,AV.bI]):(aR dp [21,25] (.p ⟨dp,15⟩ 0)&&okB dp [15] (.p ⟨dp,15⟩ 0))=true)<|ai ((by simp [aR,okB,bY,AV.aQ,AV.aN,AV.bI]):(aR dp [21,25] (.p ⟨dp,15⟩ 0)&&okB dp [15] (.p ⟨dp,15⟩ 0))=true)<|ai ((by simp [aR,okB,bY,AV.aQ,AV.aN,AV.bI]):(aR dp [21,25] (.p ⟨dp,3⟩ 5)&&okB dp [15] (.p ⟨dp,3⟩ 5))=true)<|ai (rN dp)<|ai tt<|ai (ax bH a0.Vars)<|ai tt<|ai (rfl:(a0.Vars.length:Int)=(a0.Vars.length:Int))<|aA h fun h1 h=>ai ((BX h1 (by decide)):a0.Vars.length*8≤140737488355328)<|ai ((BY h1):a0.Vars.length≤maxLen)<|ai ((List.map_replicate ..).symm:List.replicate a0.Vars.length (I 0)=(List.replicate a0.Vars.length 0).map (I))<|ai tt<|ai ((by simp [aR,okB,bY,AV.aQ,AV.aN,AV.bI]):(aR dp [21,25] (.p ⟨dp,3⟩ 3)&&okB dp [15] (.p ⟨dp,3⟩ 3))=true)<|ai (rN dp)<|ai tt<|ai (ax ar a0.Ins)<|ai tt<|ai (rfl:(a0.Ins.length:Int)=(a0.Ins.length:Int))<|aA h fun h2 h=>ai ((BX h2 (by decide)):a0.Ins.length*8≤140737488355328)<|ai ((BY h2):a0.Ins.length≤maxLen)<|ai ((List.map_replicate ..).symm:List.replicate a0.Ins.length (I 0)=(List.replicate a0.Ins.length 0).map (I))<|ai tt<|ai ((by simp [aR,okB,bY,AV.aQ,AV.aN,AV.bI]):(aR dp [25] (.p ⟨dp,15⟩ 0)&&okB dp [15] (.p ⟨dp,15⟩ 0))=true)<|ai ((by simp [aR,okB,bY,AV.aQ,AV.aN,AV.bI]):(aR dp [25] (.p ⟨dp,15⟩ 11)&&okB dp [15] (.p ⟨dp,15⟩ 11))=true)<|ai ((by simp [aR,okB,bY,AV.aQ,AV.aN,AV.bI]):(aR dp [25] (.p ⟨dp,15⟩ 12)&&okB dp [15] (.p ⟨dp,15⟩ 12))=true)<|ai (rN dp)<|ai ff<|ai (rN dp)<|ai (rN dp)<|kY<|ai (rN dp)<|ai (rN dp)<|ai (rN dp)<|ai (ax bc a0.Funcs)<|aB h (cV (fun v=>FU dp hp hz a0 a1 a2 v.1 v.2.1 v.2.2) (0,0,([]:List Int))) fun x3 h=>ai (rN dp)<|ai (rfl:[(I x3.1)]=[x3.1].map (I))<|ai ff<|ai (rN dp)<|ai (rN dp)<|ai (rN dp)<|aA h fun h5 h=>ai ((dR (I) (n:=1) (fun _=>rfl) [x3.1]):([x3.1].map (I)).all (fun e=>e.nc==1)=true)<|ai ((fl h5 (by decide)):((x3.2.2.2.map (I)).length+([x3.1].map (I)).length)*8≤140737488355328)<|ai ((fm h5):(x3.2.2.2.map (I)).length+([x3.1].map (I)).length≤maxLen)<|ai (List.map_append.symm:x3.2.2.2.map (I)++[x3.1].map (I)=(x3.2.2.2++[x3.1]).map (I))<|ai ff<|ai (rN dp)<|ai (rN dp)<|ai (rN dp)<|ai tt<|L h
abbrev zG(dp:Nat)(hp:HP)(k0:Key)(c0:Runner)(r:(Bool×Runner)):bh×HP:=(.ret (.b r.1),ad hp k0 (aa r.2))
def g9:Option (Bool×Runner):=
 if (c0.aE.Steps==c0.fuel)=true then
  some (false,(⟨c0.p,c0.ins,c0.fuel,c0.first,(⟨c0.aE.Events,c0.aE.Vars,c0.aE.Taken,c0.aE.Steps,2,c0.aE.Stop⟩:RunT)⟩:Runner))
 else
  if IntKind.i64.wrap (c0.aE.Steps+1)=c0.aE.Steps+1 then
   some (true,(⟨c0.p,c0.ins,c0.fuel,c0.first,(⟨c0.aE.Events,c0.aE.Vars,c0.aE.Taken,c0.aE.Steps+1,c0.aE.End,c0.aE.Stop⟩:RunT)⟩:Runner))
  else none
theorem pJ(hk_k0:k0.dp<dp)(hz:bm dp hp)(c0:Runner)(r:(Bool×Runner))(h:g9 c0=some r):call G Ω0 ⟨dp,false⟩ 87 [(.p k0 0)] (ad hp k0 (aa c0))=some (zG dp hp k0 c0 r):=
 aO G87 (bf<|ao (.l (aa c0))<|bf<|ao (.l (aa c0))<|.or (fF<|ao (.l (aa c0))<|bf<|ao (.h (ad hp k0 ((aa c0).set 15 (I 2))))<|.nil) (bf<|bf<|ao (.l (aa c0))<|ao (.i (c0.aE.Steps+1))<|bf<|ao (.l (aa c0))<|bf<|ao (.h (ad hp k0 ((aa c0).set 14 (I (c0.aE.Steps+1)))))<|.nil)) fun L=>lK<|ai (Nat.ne_of_lt hk_k0)<|ai (aq hp k0 (aa c0))<|pD<|ai (Nat.ne_of_lt hk_k0)<|ai (aq hp k0 (aa c0))<|ai tt<|aM h (fun h1 h=>ai h1<|ai ff<|ai (Nat.ne_of_lt hk_k0)<|ai (aq hp k0 (aa c0))<|ai tt<|ai (Nat.ne_of_lt hk_k0)<|ai (aV hp k0 (aa c0) ((aa c0).set 15 (I 2)))<|L h) (fun h1 h=>ai h1<|ai (Nat.ne_of_lt hk_k0)<|ai (aq hp k0 (aa c0))<|aA h fun w2 h=>ai w2<|ai ff<|ai (Nat.ne_of_lt hk_k0)<|ai (aq hp k0 (aa c0))<|ai tt<|ai (Nat.ne_of_lt hk_k0)<|ai (aV hp k0 (aa c0) ((aa c0).set 14 (I (c0.aE.Steps+1))))<|L h)
end
section
variable (c0:Runner)(a0:Stmt)(dp:Nat)(hp:HP)(k0:Key)
def iA(v0_4:(List Int))(v0_12:Nat):Option (((List Int)×Nat)⊕((List Int)×Nat×Bool)):=
 if (v0_12:Int)<(a0.Args.length:Int) then
  (a0.Args[v0_12]?).bind fun (y2:ag)=>
  (km y2 c0.aE.Vars).bind fun (r4:Int)=>
  if v0_4.length + [r4].length≤1000000000 then
   if IntKind.i64.wrap ((v0_12:Int)+1)=((v0_12+1:Nat):Int) then
    some (.inl (v0_4++[r4],v0_12+1))
   else none
  else none
 else
  some (.inr (v0_4,v0_12,decide ((v0_12:Int)<(a0.Args.length:Int))))
abbrev vI(c0:Runner)(a0:Stmt)(v:((List Int)×Nat)):St:=⟨[(0,(.p k0 0)),(3,(.p ⟨dp,3⟩ 0)),(4,(.o 3 (v.1.map (I)))),(10,(.l 63 (a0.Args.map aD))),(11,(I (a0.Args.length:Int))),(12,(I (v.2:Int)))],[(3,(af a0))],ad hp k0 (aa c0)⟩
abbrev vJ(c0:Runner)(a0:Stmt)(x:((List Int)×Nat×Bool)):aJ×St:=((.ex 0),⟨[(0,(.p k0 0)),(3,(.p ⟨dp,3⟩ 0)),(4,(.o 3 (x.1.map (I)))),(10,(.l 63 (a0.Args.map aD))),(11,(I (a0.Args.length:Int))),(12,(I (x.2.1:Int))),(13,(.b x.2.2))],[(3,(af a0))],ad hp k0 (aa c0)⟩)
theorem uX(hk_k0:k0.dp<dp)(hz:bm dp hp)(c0:Runner)(a0:Stmt)(v0_4:(List Int))(v0_12:Nat)(o:((List Int)×Nat)⊕((List Int)×Nat×Bool))(h:iA c0 a0 v0_4 v0_12=some o):bu ⟨dp,false⟩ Jk (vI dp hp k0 c0 a0) (vJ dp hp k0 c0 a0) (v0_4,v0_12) o:=
 bD (.or (bt<|ao (.n v0_12)<|.ex fun (y2:ag)=>ao (.v (.a (bn y2)))<|wB<|ao (.l (aa c0))<|bf<|ao (.l (aa c0))<|xI fun r4=>ao (.l ([r4].map (I)))<|ao (.l ((v0_4++[r4]).map (I)))<|ao (.i ((v0_12+1:Nat):Int))<|.nil) (bf<|.nil)) fun L=>bB h (fun h1 h=>ai (decide_eq_true h1)<|ai (rI v0_12)<|ba h fun y2 h3 h=>ai (cF aD h3 (dm _))<|ai ((by simp [bn,af,AV.aQ,AV.aN,AV.deep,AV.b6,aG hk_k0,Nat.le_of_lt hk_k0]):(([(15,(.a (bn y2))),(14,(.e (.a (bn y2)) 0)),(0,(.p k0 0)),(3,(.p ⟨dp,3⟩ 0)),(4,(.o 3 (v0_4.map (I)))),(10,(.l 63 (a0.Args.map aD))),(11,(I (a0.Args.length:Int))),(12,(I (v0_12:Int)))]:List (Nat×AV)).all (fun y=>y.2.aQ ⟨dp,6⟩)&&([(3,(af a0))]:List (Nat×List AV)).all (fun y=>AV.aN ⟨dp,6⟩ y.2))=true)<|ai ff<|ai (rN dp)<|ai tt<|ai (rN dp)<|ai ((by simp [bn,af,cJ,aP,AV.aQ,AV.aN,AV.bI,aG hk_k0]):(([24]:List Nat).all (cJ dp (⟨[(0,(.p k0 0)),(3,(.p ⟨dp,3⟩ 0)),(4,(.o 3 (v0_4.map (I)))),(6,(.p ⟨dp,6⟩ 0)),(10,(.l 63 (a0.Args.map aD))),(11,(I (a0.Args.length:Int))),(12,(I (v0_12:Int)))],[(3,(af a0)),(6,(bn y2))],H0⟩:St))&&true)=true)<|ai tt<|ai (rN dp)<|ai tt<|ai (fE hk_k0 [24])<|ai (fE hk_k0 [24])<|ai ((by simp [aR,okB,bY,AV.aQ,AV.aN,AV.bI,aG hk_k0]):(aR dp [24] (.p k0 11)&&okB dp [] (.p k0 11))=true)<|ai ((by simp [aR,okB,bY,AV.aQ,AV.aN,AV.bI,aG hk_k0]):(aR dp [24] (.p k0 12)&&okB dp [] (.p k0 12))=true)<|ai (Nat.ne_of_lt hk_k0)<|ai (aq hp k0 (aa c0))<|ai ((by simp [aR,okB,bY,AV.aQ,AV.aN,AV.bI,aG hk_k0]):(aR dp [24] (.r (.c k0 12))&&okB dp [] (.r (.c k0 12)))=true)<|ai (Nat.ne_of_lt hk_k0)<|ai (aq hp k0 (aa c0))<|aB h (na y2 c0.aE.Vars) fun r4 h=>gG<|ai (rfl:[(I r4)]=[r4].map (I))<|kY<|aA h fun h6 h=>ai ((dR (I) (n:=1) (fun _=>rfl) [r4]):([r4].map (I)).all (fun e=>e.nc==1)=true)<|ai ((fl h6 (by decide)):((v0_4.map (I)).length+([r4].map (I)).length)*8≤140737488355328)<|ai ((fm h6):(v0_4.map (I)).length+([r4].map (I)).length≤maxLen)<|ai (List.map_append.symm:v0_4.map (I)++[r4].map (I)=(v0_4++[r4]).map (I))<|aA h fun w7 h=>ai w7<|L h) (fun h1 h=>ai (decide_eq_false h1)<|L h)
def iB(c0:Runner)(x1:((List Int)×Nat×Bool))(y5:Func)(v1_38:Nat)(v1_k0_12:(List Int)):Option ((Nat×(List Int))⊕(Nat×Bool×(List Int))):=
 if (v1_38:Int)<(y5.Params.length:Int) then
  (y5.Params[v1_38]?).bind fun (y8:Int)=>
  (x1.1[v1_38]?).bind fun (y10:Int)=>
  (dU y8).bind fun (j12:Nat)=>
  (v1_k0_12[j12]?).bind fun (y14:Int)=>
  if IntKind.i64.wrap ((v1_38:Int)+1)=((v1_38+1:Nat):Int) then
   some (.inl (v1_38+1,v1_k0_12.set j12 y10))
  else none
 else
  some (.inr (v1_38,decide ((v1_38:Int)<(y5.Params.length:Int)),v1_k0_12))
abbrev vK(dp:Nat)(hp:HP)(k0:Key)(c0:Runner)(x1:((List Int)×Nat×Bool))(y5:Func)(v:(Nat×(List Int))):St:=⟨[(0,(.p k0 0)),(4,(.o 3 (x1.1.map (I)))),(36,(.l 3 (y5.Params.map (I)))),(37,(I (y5.Params.length:Int))),(38,(I (v.1:Int)))],[],ad hp k0 ((bF c0).set 12 (.o 3 (v.2.map (I))))⟩
abbrev vL(dp:Nat)(hp:HP)(k0:Key)(c0:Runner)(x1:((List Int)×Nat×Bool))(y5:Func)(x:(Nat×Bool×(List Int))):aJ×St:=((.ex 2),⟨[(0,(.p k0 0)),(4,(.o 3 (x1.1.map (I)))),(36,(.l 3 (y5.Params.map (I)))),(37,(I (y5.Params.length:Int))),(38,(I (x.1:Int))),(39,(.b x.2.1))],[],ad hp k0 ((bF c0).set 12 (.o 3 (x.2.2.map (I))))⟩)
end
end
end Go.Proofs.YtndeklbmglgonaaGreat.A
