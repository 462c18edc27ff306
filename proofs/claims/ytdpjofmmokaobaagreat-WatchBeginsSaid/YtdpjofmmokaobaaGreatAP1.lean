/- Functions of the program as plain functions, by program. -/
import Derived.Test.YtdpjofmmokaobaaGreatTypes
import Derived.Test.YtdpjofmmokaobaaGreatLift
import Derived.Test.YtdpjofmmokaobaaGreatFE
set_option maxRecDepth 100000
set_option linter.unusedSectionVars false
set_option linter.unusedVariables false
set_option linter.unusedSimpArgs false
namespace Go.Proofs.YtdpjofmmokaobaaGreat.A
open Go
noncomputable section
variable [Lp]
section
variable (a0:ah)(a1:Int)
abbrev HC(a0:ah)(a1:Int)(r:Bool):aW×HP:=(.ret (.b r),H0)
def jm:Option Bool:=
 if 0≤a1 then
  some (decide (a1<a0.Many))
 else
  some false
theorem lL(r:Bool)(h:jm a0 a1=some r):call G Ω0 E0 123 [(.a [(I a0.Many),(.l 136 (a0.Grants.map aF))]),(I a1)] H0=some (HC a0 a1 r):=
 aK Zr (.or (Jm<|.nil) (bf<|bf<|bf<|bf<|bf<|.nil)) fun L=>ai tt<|cb h (fun h1 h=>ai (g1 (decide_eq_true h1))<|ai (g1 (decide_eq_true h1))<|ai (g1 (decide_eq_true h1))<|ai (rfl:Z0)<|ai (g1 (decide_eq_true h1))<|ai (decide_eq_true h1)<|L h) (fun h1 h=>ai (g1 (decide_eq_false h1))<|ai (g1 (decide_eq_false h1))<|ai (g1 (decide_eq_false h1))<|ai (g1 (decide_eq_false h1))<|ai (decide_eq_false h1)<|L h)
end
section
variable (a0:cq)(a1:ah)
abbrev Bf(a0:cq)(a1:ah)(r:Bool):aW×HP:=(.ret (.b r),H0)
def jF:Option Bool:=
 (jm a1 a0.Who).bind fun (r1:Bool)=>
 if r1=true then
  (jm a1 a0.For).bind fun (r4:Bool)=>
  some (!r4)
 else
  some true
theorem yE(r:Bool)(h:jF a0 a1=some r):call G Ω0 E0 122 [(.a [(I a0.Who),(I a0.For)]),(.e (.a [(I a1.Many),(.l 136 (a1.Grants.map aF))]) 0)] H0=some (Bf a0 a1 r):=
 aK Zq (bt<|xB fun r1=>.or (qE<|xB fun r4=>kD<|.nil) (bf<|bf<|bf<|bf<|bf<|bt<|.nil)) fun L=>ai tt<|ai (rfl:Z0)<|aQ h (lL a1 a0.Who) fun r1 h=>a8 h (fun h3 h=>ai (g0 (congrArg not h3))<|ai (g0 (congrArg not h3))<|ai (g0 (congrArg not h3))<|ai (rfl:Z0)<|ai (g0 (congrArg not h3))<|aQ h (lL a1 a0.For) fun r4 h=>tU (congrArg not h3)<|L h) (fun h3 h=>ai (g0 (congrArg not h3))<|ai (g0 (congrArg not h3))<|ai (g0 (congrArg not h3))<|ai (g0 (congrArg not h3))<|ai (g0 (congrArg not h3))<|ai (congrArg not h3)<|L h)
end
section
variable (a0:(List cq))(a1:ah)
def gJ(v0_8:Nat):Option (Nat⊕(Nat⊕(Nat×Bool))):=
 if (v0_8:Int)<(a0.length:Int) then
  (a0[v0_8]?).bind fun (y2:cq)=>
  (jF y2 a1).bind fun (r4:Bool)=>
  if r4=true then
   some (.inr (.inl v0_8))
  else
   if IntKind.i64.wrap ((v0_8:Int)+1)=((v0_8+1:Nat):Int) then
    some (.inl (v0_8+1))
   else none
 else
  some (.inr (.inr (v0_8,decide ((v0_8:Int)<(a0.length:Int)))))
abbrev nz(v:Nat):St:=⟨[(0,(.l 136 (a0.map aF))),(1,(.f 122 [(.e (.a [(I a1.Many),(.l 136 (a1.Grants.map aF))]) 0)])),(7,(I (a0.length:Int))),(8,(I (v:Int)))],[],H0⟩
abbrev nA(x:(Nat⊕(Nat×Bool))):aR×St:=match x with | .inl z1=>(.ret,⟨[(4,(I (z1:Int)))],[],H0⟩) | .inr (z1,z2)=>((.ex 0),⟨[(0,(.l 136 (a0.map aF))),(1,(.f 122 [(.e (.a [(I a1.Many),(.l 136 (a1.Grants.map aF))]) 0)])),(7,(I (a0.length:Int))),(8,(I (z1:Int))),(9,(.b z2))],[],H0⟩)
theorem m4(v0_8:Nat)(o:Nat⊕(Nat⊕(Nat×Bool)))(h:gJ a0 a1 v0_8=some o):bI E0 Ki (nz a0 a1) (nA a0 a1) v0_8 o:=
 bP (.or (bt<|ao (.n v0_8)<|.ex fun (y2:cq)=>ao (.v (.a [(I y2.Who),(I y2.For)]))<|xB fun r4=>oN (ao (.i ((v0_8+1:Nat):Int))<|.nil)) (bf<|.nil)) fun L=>cb h (fun h1 h=>ai (decide_eq_true h1)<|ai (rI v0_8)<|aP h fun y2 h3 h=>ai (aD aF h3)<|aQ h (yE y2 a1) fun r4 h=>a8 h (fun h6 h=>ai h6<|L h) (fun h6 h=>ai h6<|aS h fun w7 h=>ai w7<|L h)) (fun h1 h=>ai (decide_eq_false h1)<|L h)
abbrev oV(a0:(List cq))(a1:ah)(r:Int):aW×HP:=(.ret (I r),H0)
def iI:Option Int:=
 (lp (fun v=>gJ a0 a1 v) 0).bind fun (x1:(Nat⊕(Nat×Bool)))=>match x1 with
 | .inl ya_2=>
  some (ya_2:Int)
 | .inr yb_2=>
  some (-1)
theorem m5(r:Int)(h:iI a0 a1=some r):call G Ω0 E0 154 [(.l 136 (a0.map aF)),(.f 122 [(.e (.a [(I a1.Many),(.l 136 (a1.Grants.map aF))]) 0)])] H0=some (oV a0 a1 r):=
 aK ZQ (ao (.i (a0.length:Int))<|.or (.ex fun (ya_2:Nat)=>ao (.lp .ret ⟨[(4,(I (ya_2:Int)))],[],H0⟩)<|.nil) (.ex fun (yb_2:(Nat×Bool))=>ao (.lp (.ex 0) ⟨[(0,(.l 136 (a0.map aF))),(1,(.f 122 [(.e (.a [(I a1.Many),(.l 136 (a1.Grants.map aF))]) 0)])),(7,(I (a0.length:Int))),(8,(I (yb_2.1:Int))),(9,(.b yb_2.2))],[],H0⟩)<|.nil)) fun L=>ai (aL aF a0)<|cN h (ef (m4 a0 a1) 0) (fun ya_2 h=>L h) (fun yb_2 h=>L h)
abbrev m6(a0:(List cq))(a1:ah)(r:Bool):aW×HP:=(.ret (.b r),H0)
def ea:Option Bool:=
 (iI a0 a1).bind fun (r1:Int)=>
 some (decide (0≤r1))
theorem ma(r:Bool)(h:ea a0 a1=some r):call G Ω0 E0 121 [(.l 136 (a0.map aF)),(.f 122 [(.e (.a [(I a1.Many),(.l 136 (a1.Grants.map aF))]) 0)])] H0=some (m6 a0 a1 r):=
 aK Zp (xI fun r1=>.nil) fun L=>aQ h (m5 a0 a1) fun r1 h=>L h
end
section
variable (a0:ah)
abbrev DI(a0:ah)(r:Int):aW×HP:=(.ret (I r),H0)
def od:Option Int:=
 if a0.Many<1 then
  some 3
 else
  if 6<a0.Many then
   some 3
  else
   if 20<(a0.Grants.length:Int) then
    some 2
   else
    (ea a0.Grants a0).bind fun (r4:Bool)=>
    if r4=true then
     some 5
    else
     some 0
theorem Az(r:Int)(h:od a0=some r):call G Ω0 E0 79 [(.a [(I a0.Many),(.l 136 (a0.Grants.map aF))])] H0=some (DI a0 r):=
 aK G79 (bt<|.or (ML<|.nil) (Ii<|oN (bt<|ao (.i (a0.Grants.length:Int))<|oN (xB fun r4=>oN (.nil))))) fun L=>ai tt<|ai (rfl:Z0)<|cb h (fun h1 h=>ai (g0 (decide_eq_true h1))<|ai (g0 (decide_eq_true h1))<|ai (g0 (decide_eq_true h1))<|ai (decide_eq_true h1)<|ai tt<|L h) (fun h1 h=>ai (g0 (decide_eq_false h1))<|ai (g0 (decide_eq_false h1))<|ai (rfl:Z0)<|ai (g0 (decide_eq_false h1))<|ai (decide_eq_false h1)<|cb h (fun h2 h=>ai (decide_eq_true h2)<|L h) (fun h2 h=>sZ (decide_eq_false h2)<|ai (aL aF a0.Grants)<|cb h (fun h3 h=>ai (decide_eq_true h3)<|L h) (fun h3 h=>sZ (decide_eq_false h3)<|aQ h (ma a0.Grants a0) fun r4 h=>a8 h (fun h6 h=>ai h6<|L h) (fun h6 h=>ai h6<|L h))))
end
section
variable (a0:Int)(a1:Program)
abbrev DJ(a0:Int)(a1:Program)(r:Bool):aW×HP:=(.ret (.b r),H0)
def oe:Option Bool:=
 (jm a1.ah a0).bind fun (r1:Bool)=>
 some (!r1)
theorem AA(r:Bool)(h:oe a0 a1=some r):call G Ω0 E0 131 [(I a0),(.e (.a (ay a1)) 0)] H0=some (DJ a0 a1 r):=
 aK Zx (xB fun r1=>.nil) fun L=>aQ h (lL a1.ah a0) fun r1 h=>L h
end
section
variable (a0:(List Int))(a1:Program)
def iJ(v0_8:Nat):Option (Nat⊕(Nat⊕(Nat×Bool))):=
 if (v0_8:Int)<(a0.length:Int) then
  (a0[v0_8]?).bind fun (y2:Int)=>
  (oe y2 a1).bind fun (r4:Bool)=>
  if r4=true then
   some (.inr (.inl v0_8))
  else
   if IntKind.i64.wrap ((v0_8:Int)+1)=((v0_8+1:Nat):Int) then
    some (.inl (v0_8+1))
   else none
 else
  some (.inr (.inr (v0_8,decide ((v0_8:Int)<(a0.length:Int)))))
abbrev oW(v:Nat):St:=⟨[(0,(.l 3 (a0.map (I)))),(1,(.f 131 [(.e (.a (ay a1)) 0)])),(7,(I (a0.length:Int))),(8,(I (v:Int)))],[],H0⟩
abbrev oX(x:(Nat⊕(Nat×Bool))):aR×St:=match x with | .inl z1=>(.ret,⟨[(4,(I (z1:Int)))],[],H0⟩) | .inr (z1,z2)=>((.ex 0),⟨[(0,(.l 3 (a0.map (I)))),(1,(.f 131 [(.e (.a (ay a1)) 0)])),(7,(I (a0.length:Int))),(8,(I (z1:Int))),(9,(.b z2))],[],H0⟩)
theorem og(v0_8:Nat)(o:Nat⊕(Nat⊕(Nat×Bool)))(h:iJ a0 a1 v0_8=some o):bI E0 z8 (oW a0 a1) (oX a0 a1) v0_8 o:=
 bP (.or (bt<|ao (.n v0_8)<|xI fun y2=>xB fun r4=>oN (ao (.i ((v0_8+1:Nat):Int))<|.nil)) (bf<|.nil)) fun L=>cb h (fun h1 h=>ai (decide_eq_true h1)<|ai (rI v0_8)<|aP h fun y2 h3 h=>ai (aD (I) h3)<|aQ h (AA y2 a1) fun r4 h=>a8 h (fun h6 h=>ai h6<|L h) (fun h6 h=>ai h6<|aS h fun w7 h=>ai w7<|L h)) (fun h1 h=>ai (decide_eq_false h1)<|L h)
abbrev pX(a0:(List Int))(a1:Program)(r:Int):aW×HP:=(.ret (I r),H0)
def jG:Option Int:=
 (lp (fun v=>iJ a0 a1 v) 0).bind fun (x1:(Nat⊕(Nat×Bool)))=>match x1 with
 | .inl ya_2=>
  some (ya_2:Int)
 | .inr yb_2=>
  some (-1)
theorem oh(r:Int)(h:jG a0 a1=some r):call G Ω0 E0 98 [(.l 3 (a0.map (I))),(.f 131 [(.e (.a (ay a1)) 0)])] H0=some (pX a0 a1 r):=
 aK Ko (ao (.i (a0.length:Int))<|.or (.ex fun (ya_2:Nat)=>ao (.lp .ret ⟨[(4,(I (ya_2:Int)))],[],H0⟩)<|.nil) (.ex fun (yb_2:(Nat×Bool))=>ao (.lp (.ex 0) ⟨[(0,(.l 3 (a0.map (I)))),(1,(.f 131 [(.e (.a (ay a1)) 0)])),(7,(I (a0.length:Int))),(8,(I (yb_2.1:Int))),(9,(.b yb_2.2))],[],H0⟩)<|.nil)) fun L=>ai (aL (I) a0)<|cN h (ef (og a0 a1) 0) (fun ya_2 h=>L h) (fun yb_2 h=>L h)
abbrev oi(a0:(List Int))(a1:Program)(r:Bool):aW×HP:=(.ret (.b r),H0)
def eA:Option Bool:=
 (jG a0 a1).bind fun (r1:Int)=>
 some (decide (0≤r1))
theorem mK(r:Bool)(h:eA a0 a1=some r):call G Ω0 E0 55 [(.l 3 (a0.map (I))),(.f 131 [(.e (.a (ay a1)) 0)])] H0=some (oi a0 a1 r):=
 aK Kn (xI fun r1=>.nil) fun L=>aQ h (oh a0 a1) fun r1 h=>L h
end
section
variable (a0:(List (List Label)))
def cU(v0_3:Int)(v0_11:Nat):Option ((Int×Nat)⊕(Int×Nat×Bool)):=
 if (v0_11:Int)<(a0.length:Int) then
  (a0[v0_11]?).bind fun (y2:(List Label))=>
  if IntKind.i64.wrap (v0_3+(y2.length:Int))=v0_3+(y2.length:Int) then
   if (v0_3+(y2.length:Int))<0 then
    none
   else
    if IntKind.i64.wrap ((v0_11:Int)+1)=((v0_11+1:Nat):Int) then
     some (.inl (v0_3+(y2.length:Int),v0_11+1))
    else none
  else none
 else
  some (.inr (v0_3,v0_11,decide ((v0_11:Int)<(a0.length:Int))))
abbrev sh(v:(Int×Nat)):St:=⟨[(0,(.l 26 (a0.map (bD 49 au)))),(3,(I v.1)),(9,(.l 26 (a0.map (bD 49 au)))),(10,(I (a0.length:Int))),(11,(I (v.2:Int)))],[],H0⟩
abbrev si(x:(Int×Nat×Bool)):aR×St:=((.ex 0),⟨[(0,(.l 26 (a0.map (bD 49 au)))),(3,(I x.1)),(9,(.l 26 (a0.map (bD 49 au)))),(10,(I (a0.length:Int))),(11,(I (x.2.1:Int))),(12,(.b x.2.2))],[],H0⟩)
theorem rm(v0_3:Int)(v0_11:Nat)(o:(Int×Nat)⊕(Int×Nat×Bool))(h:cU a0 v0_3 v0_11=some o):bI E0 J8 (sh a0) (si a0) (v0_3,v0_11) o:=
 bP (.or (bt<|ao (.n v0_11)<|.ex fun (y2:(List Label))=>ao (.v (.l 49 (y2.map au)))<|ao (.i (y2.length:Int))<|ao (.i (v0_3+(y2.length:Int)))<|bf<|ao (.i ((v0_11+1:Nat):Int))<|.nil) (bf<|.nil)) fun L=>cb h (fun h1 h=>ai (decide_eq_true h1)<|ai (rI v0_11)<|aP h fun y2 h3 h=>ai (aD (bD 49 au) h3)<|ai (aL au y2)<|aS h fun w4 h=>ai w4<|MC h (fun _ h=>B8 h) (fun h5 h=>ai (decide_eq_false h5)<|aS h fun w6 h=>ai w6<|L h)) (fun h1 h=>ai (decide_eq_false h1)<|L h)
def cV(v1_6:(List Label))(v1_27:Nat):Option (((List Label)×Nat)⊕((List Label)×Nat×Bool)):=
 if (v1_27:Int)<(a0.length:Int) then
  (a0[v1_27]?).bind fun (y5:(List Label))=>
  if v1_6.length+y5.length≤1000000000 then
   if IntKind.i64.wrap ((v1_27:Int)+1)=((v1_27+1:Nat):Int) then
    some (.inl (v1_6++y5,v1_27+1))
   else none
  else none
 else
  some (.inr (v1_6,v1_27,decide ((v1_27:Int)<(a0.length:Int))))
abbrev sj(v:((List Label)×Nat)):St:=⟨[(6,(.o 49 (v.1.map au))),(25,(.l 26 (a0.map (bD 49 au)))),(26,(I (a0.length:Int))),(27,(I (v.2:Int)))],[],H0⟩
abbrev sn(x:((List Label)×Nat×Bool)):aR×St:=((.ex 2),⟨[(6,(.o 49 (x.1.map au))),(25,(.l 26 (a0.map (bD 49 au)))),(26,(I (a0.length:Int))),(27,(I (x.2.1:Int))),(28,(.b x.2.2))],[],H0⟩)
theorem rn(v1_6:(List Label))(v1_27:Nat)(o:((List Label)×Nat)⊕((List Label)×Nat×Bool))(h:cV a0 v1_6 v1_27=some o):bI E0 J9 (sj a0) (sn a0) (v1_6,v1_27) o:=
 bP (.or (bt<|ao (.n v1_27)<|.ex fun (y5:(List Label))=>ao (.v (.l 49 (y5.map au)))<|ao (.l ((v1_6++y5).map au))<|ao (.i ((v1_27+1:Nat):Int))<|.nil) (bf<|.nil)) fun L=>cb h (fun h4 h=>ai (decide_eq_true h4)<|ai (rI v1_27)<|aP h fun y5 h6 h=>ai (aD (bD 49 au) h6)<|ai ff<|aS h fun h7 h=>ai ((gi au (n:=2) (fun _=>rfl) y5):(y5.map au).all (fun e=>e.nc==2)=true)<|ai ((lh h7 (by decide)):((v1_6.map au).length+(y5.map au).length)*48≤140737488355328)<|ai ((lj h7):(v1_6.map au).length+(y5.map au).length≤maxLen)<|ai (List.map_append.symm:v1_6.map au++y5.map au=(v1_6++y5).map au)<|aS h fun w8 h=>ai w8<|L h) (fun h4 h=>ai (decide_eq_false h4)<|L h)
abbrev th(a0:(List (List Label)))(r:(List Label)):aW×HP:=(.ret (.l 49 (r.map au)),H0)
def fx:Option (List Label):=
 (lp (fun v=>cU a0 v.1 v.2) (0,0)).bind fun (x1:(Int×Nat×Bool))=>
 if 0≤x1.1∧x1.1≤1000000 then
  (lp (fun v=>cV a0 v.1 v.2) (([]:List Label),0)).bind fun (x4:((List Label)×Nat×Bool))=>
  some x4.1
 else none
theorem rp(r:(List Label))(h:fx a0=some r):call G Ω0 E0 132 [(.l 26 (a0.map (bD 49 au)))] H0=some (th a0 r):=
 aK Zy (ao (.i (a0.length:Int))<|.ex fun (x1:(Int×Nat×Bool))=>ao (.lp (.ex 0) ⟨[(0,(.l 26 (a0.map (bD 49 au)))),(3,(I x1.1)),(9,(.l 26 (a0.map (bD 49 au)))),(10,(I (a0.length:Int))),(11,(I (x1.2.1:Int))),(12,(.b x1.2.2))],[],H0⟩)<|ao (.i (a0.length:Int))<|.ex fun (x4:((List Label)×Nat×Bool))=>ao (.lp (.ex 2) ⟨[(6,(.o 49 (x4.1.map au))),(25,(.l 26 (a0.map (bD 49 au)))),(26,(I (a0.length:Int))),(27,(I (x4.2.1:Int))),(28,(.b x4.2.2))],[],H0⟩)<|.nil) fun L=>ai (aL (bD 49 au) a0)<|aQ h (ef (fun v=>rm a0 v.1 v.2) (0,0)) fun x1 h=>aS h fun h3 h=>ai (MD h3:Ω0 159 [.n,(I x1.1)]=some (.o 49 []))<|ai (aL (bD 49 au) a0)<|aQ h (ef (fun v=>rn a0 v.1 v.2) (([]:List Label),0)) fun x4 h=>L h
end
section
variable (a0:Int)(a1:ah)
abbrev Bg(a0:Int)(a1:ah)(r:Bool):aW×HP:=(.ret (.b r),H0)
def mb:Option Bool:=
 (jm a1 a0).bind fun (r1:Bool)=>
 some (!r1)
theorem yF(r:Bool)(h:mb a0 a1=some r):call G Ω0 E0 155 [(I a0),(.e (.a [(I a1.Many),(.l 136 (a1.Grants.map aF))]) 0)] H0=some (Bg a0 a1 r):=
 aK ZR (xB fun r1=>.nil) fun L=>aQ h (lL a1 a0) fun r1 h=>L h
end
section
variable (a0:(List Int))(a1:ah)
def gK(v0_8:Nat):Option (Nat⊕(Nat⊕(Nat×Bool))):=
 if (v0_8:Int)<(a0.length:Int) then
  (a0[v0_8]?).bind fun (y2:Int)=>
  (mb y2 a1).bind fun (r4:Bool)=>
  if r4=true then
   some (.inr (.inl v0_8))
  else
   if IntKind.i64.wrap ((v0_8:Int)+1)=((v0_8+1:Nat):Int) then
    some (.inl (v0_8+1))
   else none
 else
  some (.inr (.inr (v0_8,decide ((v0_8:Int)<(a0.length:Int)))))
abbrev nB(v:Nat):St:=⟨[(0,(.l 3 (a0.map (I)))),(1,(.f 155 [(.e (.a [(I a1.Many),(.l 136 (a1.Grants.map aF))]) 0)])),(7,(I (a0.length:Int))),(8,(I (v:Int)))],[],H0⟩
abbrev nC(x:(Nat⊕(Nat×Bool))):aR×St:=match x with | .inl z1=>(.ret,⟨[(4,(I (z1:Int)))],[],H0⟩) | .inr (z1,z2)=>((.ex 0),⟨[(0,(.l 3 (a0.map (I)))),(1,(.f 155 [(.e (.a [(I a1.Many),(.l 136 (a1.Grants.map aF))]) 0)])),(7,(I (a0.length:Int))),(8,(I (z1:Int))),(9,(.b z2))],[],H0⟩)
theorem m7(v0_8:Nat)(o:Nat⊕(Nat⊕(Nat×Bool)))(h:gK a0 a1 v0_8=some o):bI E0 z8 (nB a0 a1) (nC a0 a1) v0_8 o:=
 bP (.or (bt<|ao (.n v0_8)<|xI fun y2=>xB fun r4=>oN (ao (.i ((v0_8+1:Nat):Int))<|.nil)) (bf<|.nil)) fun L=>cb h (fun h1 h=>ai (decide_eq_true h1)<|ai (rI v0_8)<|aP h fun y2 h3 h=>ai (aD (I) h3)<|aQ h (yF y2 a1) fun r4 h=>a8 h (fun h6 h=>ai h6<|L h) (fun h6 h=>ai h6<|aS h fun w7 h=>ai w7<|L h)) (fun h1 h=>ai (decide_eq_false h1)<|L h)
abbrev oY(a0:(List Int))(a1:ah)(r:Int):aW×HP:=(.ret (I r),H0)
def iK:Option Int:=
 (lp (fun v=>gK a0 a1 v) 0).bind fun (x1:(Nat⊕(Nat×Bool)))=>match x1 with
 | .inl ya_2=>
  some (ya_2:Int)
 | .inr yb_2=>
  some (-1)
theorem m8(r:Int)(h:iK a0 a1=some r):call G Ω0 E0 98 [(.l 3 (a0.map (I))),(.f 155 [(.e (.a [(I a1.Many),(.l 136 (a1.Grants.map aF))]) 0)])] H0=some (oY a0 a1 r):=
 aK Ko (ao (.i (a0.length:Int))<|.or (.ex fun (ya_2:Nat)=>ao (.lp .ret ⟨[(4,(I (ya_2:Int)))],[],H0⟩)<|.nil) (.ex fun (yb_2:(Nat×Bool))=>ao (.lp (.ex 0) ⟨[(0,(.l 3 (a0.map (I)))),(1,(.f 155 [(.e (.a [(I a1.Many),(.l 136 (a1.Grants.map aF))]) 0)])),(7,(I (a0.length:Int))),(8,(I (yb_2.1:Int))),(9,(.b yb_2.2))],[],H0⟩)<|.nil)) fun L=>ai (aL (I) a0)<|cN h (ef (m7 a0 a1) 0) (fun ya_2 h=>L h) (fun yb_2 h=>L h)
abbrev m9(a0:(List Int))(a1:ah)(r:Bool):aW×HP:=(.ret (.b r),H0)
def eb:Option Bool:=
 (iK a0 a1).bind fun (r1:Int)=>
 some (decide (0≤r1))
theorem mc(r:Bool)(h:eb a0 a1=some r):call G Ω0 E0 55 [(.l 3 (a0.map (I))),(.f 155 [(.e (.a [(I a1.Many),(.l 136 (a1.Grants.map aF))]) 0)])] H0=some (m9 a0 a1 r):=
 aK Kn (xI fun r1=>.nil) fun L=>aQ h (m8 a0 a1) fun r1 h=>L h
end
section
variable (a1:bC)(a0:ah)
def ej(v0_5:Nat):Option (Nat⊕(Unit⊕(Nat×Bool))):=
 if (v0_5:Int)<(a1.Names.length:Int) then
  (a1.Names[v0_5]?).bind fun (y9:Int)=>
  if IntKind.i64.wrap ((v0_5:Int) - 1)=(v0_5:Int) - 1 then
   (cX ((v0_5:Int) - 1)).bind fun (j12:Nat)=>
   (a1.Names[j12]?).bind fun (y14:Int)=>
   if y9≤y14 then
    some (.inr (.inl ()))
   else
    if IntKind.i64.wrap ((v0_5:Int)+1)=((v0_5+1:Nat):Int) then
     some (.inl (v0_5+1))
    else none
  else none
 else
  some (.inr (.inr (v0_5,decide ((v0_5:Int)<(a1.Names.length:Int)))))
abbrev Bh(v:Nat):St:=⟨[(3,(.p ⟨0,3⟩ 0)),(5,(I (v:Int)))],[(3,[(I a1.Owner),(.l 3 (a1.Names.map (I)))])],H0⟩
abbrev Bi(x:(Unit⊕(Nat×Bool))):aR×St:=match x with | .inl ()=>(.ret,⟨[(4,(I 4))],[],H0⟩) | .inr (z1,z2)=>((.ex 1),⟨[(3,(.p ⟨0,3⟩ 0)),(5,(I (z1:Int))),(26,(.b z2))],[(3,[(I a1.Owner),(.l 3 (a1.Names.map (I)))])],H0⟩)
theorem AB(v0_5:Nat)(o:Nat⊕(Unit⊕(Nat×Bool)))(h:ej a1 v0_5=some o):bI E0 J5 (Bh a1) (Bi a1) v0_5 o:=
 bP (bt<|ao (.i (a1.Names.length:Int))<|.or (du<|ao (.n v0_5)<|xI fun y9=>bt<|ao (.i ((v0_5:Int) - 1))<|xN fun j12=>xI fun y14=>oN (ao (.i ((v0_5+1:Nat):Int))<|.nil)) (bf<|.nil)) fun L=>ai (rfl:Z0)<|ai (aL (I) a1.Names)<|cb h (fun h8 h=>ai (decide_eq_true h8)<|ai tt<|ai tt<|ai (rfl:Z0)<|ai tt<|ai tt<|ai (rI v0_5)<|aP h fun y9 h10 h=>ai (aD (I) h10)<|ai tt<|ai tt<|ai tt<|ai (rfl:Z0)<|ai tt<|ai tt<|aS h fun w11 h=>ai w11<|ai tt<|eN h fun j12 h13 h=>ai h13<|aP h fun y14 h15 h=>ai (aD (I) h15)<|cF<|cb h (fun h16 h=>ai (decide_eq_true h16)<|L h) (fun h16 h=>ai (decide_eq_false h16)<|aS h fun w17 h=>ai w17<|L h)) (fun h8 h=>ai (decide_eq_false h8)<|L h)
abbrev DK(a0:ah)(a1:bC)(r:Int):aW×HP:=(.ret (I r),H0)
def oj(a1:bC):Option Int:=
 (jm a0 a1.Owner).bind fun (r1:Bool)=>
 if r1=true then
  if 6<(a1.Names.length:Int) then
   some 2
  else
   (eb a1.Names a0).bind fun (r5:Bool)=>
   if r5=true then
    some 5
   else
    (lp (fun v=>ej a1 v) 1).bind fun (x8:(Unit⊕(Nat×Bool)))=>match x8 with
    | .inl ya_9=>
     some 4
    | .inr yb_9=>
     some 0
 else
  some 5
theorem AD(a1:bC)(r:Int)(h:oj a0 a1=some r):call G Ω0 E0 124 [(.a [(I a0.Many),(.l 136 (a0.Grants.map aF))]),(.a [(I a1.Owner),(.l 3 (a1.Names.map (I)))])] H0=some (DK a0 a1 r):=
 aK Zs (du<|xB fun r1=>.or (sg<|ao (.i (a1.Names.length:Int))<|oN (bt<|xB fun r5=>oN (.or (.ex fun (ya_9:Unit)=>ao (.lp .ret ⟨[(4,(I 4))],[],H0⟩)<|.nil) (.ex fun (yb_9:(Nat×Bool))=>ao (.lp (.ex 1) ⟨[(3,(.p ⟨0,3⟩ 0)),(5,(I (yb_9.1:Int))),(26,(.b yb_9.2))],[(3,[(I a1.Owner),(.l 3 (a1.Names.map (I)))])],H0⟩)<|.nil)))) (bt<|.nil)) fun L=>ai tt<|ai tt<|ai (rfl:Z0)<|ai (rfl:Z0)<|aQ h (lL a0 a1.Owner) fun r1 h=>a8 h (fun h3 h=>sZ (congrArg not h3)<|ai (aL (I) a1.Names)<|cb h (fun h4 h=>ai (decide_eq_true h4)<|L h) (fun h4 h=>ai (decide_eq_false h4)<|ai (rfl:Z0)<|ai (rfl:Z0)<|aQ h (mc a1.Names a0) fun r5 h=>a8 h (fun h7 h=>ai h7<|L h) (fun h7 h=>ai h7<|cN h (ef (AB a1) 1) (fun ya_9 h=>L h) (fun yb_9 h=>L h)))) (fun h3 h=>ai (congrArg not h3)<|L h)
end
section
variable (a0:ah)(a1:Label)
def fq(a1:Label)(v0_16:Nat)(y2:(List bC))(v1_25:Nat):Option (Nat⊕(Int⊕(Nat×Bool))):=
 if (v1_25:Int)<(y2.length:Int) then
  (y2[v1_25]?).bind fun (y6:bC)=>
  (oj a0 y6).bind fun (r8:Int)=>
  if (r8 !=0)=true then
   some (.inr (.inl r8))
  else
   if IntKind.i64.wrap ((v1_25:Int)+1)=((v1_25+1:Nat):Int) then
    some (.inl (v1_25+1))
   else none
 else
  some (.inr (.inr (v1_25,decide ((v1_25:Int)<(y2.length:Int)))))
abbrev DL(v0_16:Nat)(y2:(List bC))(v:Nat):St:=⟨[(2,(.p ⟨0,2⟩ 0)),(14,(.l 47 (([a1.Read,a1.Write]).map (bD 134 a7)))),(15,(I ((([a1.Read,a1.Write]).length:Nat):Int))),(16,(I (v0_16:Int))),(23,(.l 134 (y2.map a7))),(24,(I (y2.length:Int))),(25,(I (v:Int)))],[(2,[(I a0.Many),(.l 136 (a0.Grants.map aF))])],H0⟩
abbrev DM(v0_16:Nat)(y2:(List bC))(x:(Int⊕(Nat×Bool))):aR×St:=match x with | .inl z1=>(.ret,⟨[(4,(I z1))],[],H0⟩) | .inr (z1,z2)=>((.ex 2),⟨[(2,(.p ⟨0,2⟩ 0)),(14,(.l 47 (([a1.Read,a1.Write]).map (bD 134 a7)))),(15,(I ((([a1.Read,a1.Write]).length:Nat):Int))),(16,(I (v0_16:Int))),(23,(.l 134 (y2.map a7))),(24,(I (y2.length:Int))),(25,(I (z1:Int))),(26,(.b z2))],[(2,[(I a0.Many),(.l 136 (a0.Grants.map aF))])],H0⟩)
theorem Cp(v0_16:Nat)(y2:(List bC))(v1_25:Nat)(o:Nat⊕(Int⊕(Nat×Bool)))(h:fq a0 a1 v0_16 y2 v1_25=some o):bI E0 NQ (DL a0 a1 v0_16 y2) (DM a0 a1 v0_16 y2) v1_25 o:=
 bP (.or (bt<|ao (.n v1_25)<|.ex fun (y6:bC)=>ao (.v (.a [(I y6.Owner),(.l 3 (y6.Names.map (I)))]))<|tV<|xI fun r8=>oN (ao (.i ((v1_25+1:Nat):Int))<|.nil)) (bf<|.nil)) fun L=>cb h (fun h5 h=>ai (decide_eq_true h5)<|ai (rI v1_25)<|aP h fun y6 h7 h=>ai (aD a7 h7)<|ai tt<|ai ff<|ai (rfl:Z0)<|ai tt<|ai (rfl:Z0)<|ai (rfl:Z0)<|ai (rfl:Z0)<|aQ h (AD a0 y6) fun r8 h=>a8 h (fun h10 h=>ai h10<|L h) (fun h10 h=>ai h10<|aS h fun w11 h=>ai w11<|L h)) (fun h5 h=>ai (decide_eq_false h5)<|L h)
def b8(v0_16:Nat):Option (Nat⊕(Unit⊕(Int⊕(Nat×Bool)))):=
 if (v0_16:Int)<((([a1.Read,a1.Write]).length:Nat):Int) then
  (([a1.Read,a1.Write])[v0_16]?).bind fun (y2:(List bC))=>
  if 4<(y2.length:Int) then
   some (.inr (.inl ()))
  else
   (lp (fun v=>fq a0 a1 v0_16 y2 v) 0).bind fun (x5:(Int⊕(Nat×Bool)))=>match x5 with
   | .inl ya_6=>
    some (.inr (.inr (.inl ya_6)))
   | .inr yb_6=>
    if IntKind.i64.wrap ((v0_16:Int)+1)=((v0_16+1:Nat):Int) then
     some (.inl (v0_16+1))
    else none
 else
  some (.inr (.inr (.inr (v0_16,decide ((v0_16:Int)<((([a1.Read,a1.Write]).length:Nat):Int))))))
abbrev DN(v:Nat):St:=⟨[(2,(.p ⟨0,2⟩ 0)),(14,(.l 47 (([a1.Read,a1.Write]).map (bD 134 a7)))),(15,(I ((([a1.Read,a1.Write]).length:Nat):Int))),(16,(I (v:Int)))],[(2,[(I a0.Many),(.l 136 (a0.Grants.map aF))])],H0⟩
abbrev DO(x:(Unit⊕(Int⊕(Nat×Bool)))):aR×St:=match x with | .inl ()=>(.ret,⟨[(4,(I 2))],[],H0⟩) | .inr (.inl z1)=>(.ret,⟨[(4,(I z1))],[],H0⟩) | .inr (.inr (z1,z2))=>((.ex 0),⟨[(2,(.p ⟨0,2⟩ 0)),(14,(.l 47 (([a1.Read,a1.Write]).map (bD 134 a7)))),(15,(I ((([a1.Read,a1.Write]).length:Nat):Int))),(16,(I (z1:Int))),(17,(.b z2))],[(2,[(I a0.Many),(.l 136 (a0.Grants.map aF))])],H0⟩)
theorem Cq(v0_16:Nat)(o:Nat⊕(Unit⊕(Int⊕(Nat×Bool))))(h:b8 a0 a1 v0_16=some o):bI E0 NS (DN a0 a1) (DO a0 a1) v0_16 o:=
 bP (.or (bt<|ao (.n v0_16)<|.ex fun (y2:(List bC))=>ao (.v (.l 134 (y2.map a7)))<|ao (.i (y2.length:Int))<|oN (ao (.i (y2.length:Int))<|.or (.ex fun (ya_6:Int)=>ao (.lp .ret ⟨[(4,(I ya_6))],[],H0⟩)<|.nil) (.ex fun (yb_6:(Nat×Bool))=>ao (.lp (.ex 2) ⟨[(2,(.p ⟨0,2⟩ 0)),(14,(.l 47 (([a1.Read,a1.Write]).map (bD 134 a7)))),(15,(I ((([a1.Read,a1.Write]).length:Nat):Int))),(16,(I (v0_16:Int))),(23,(.l 134 (y2.map a7))),(24,(I (y2.length:Int))),(25,(I (yb_6.1:Int))),(26,(.b yb_6.2))],[(2,[(I a0.Many),(.l 136 (a0.Grants.map aF))])],H0⟩)<|ao (.i ((v0_16+1:Nat):Int))<|.nil))) (bf<|.nil)) fun L=>cb h (fun h1 h=>ai (decide_eq_true h1)<|ai (rI v0_16)<|aP h fun y2 h3 h=>ai (aD (bD 134 a7) h3)<|ai (aL a7 y2)<|cb h (fun h4 h=>ai (decide_eq_true h4)<|L h) (fun h4 h=>ai (decide_eq_false h4)<|ai (aL a7 y2)<|cN h (ef (Cp a0 a1 v0_16 y2) 0) (fun ya_6 h=>L h) (fun yb_6 h=>aS h fun w8 h=>ai w8<|L h))) (fun h1 h=>ai (decide_eq_false h1)<|L h)
abbrev Gf(a0:ah)(a1:Label)(r:Int):aW×HP:=(.ret (I r),H0)
def nD:Option Int:=
 (lp (fun v=>b8 a0 a1 v) 0).bind fun (x1:(Unit⊕(Int⊕(Nat×Bool))))=>match x1 with
 | .inl ya_2=>
  some 2
 | .inr (.inl yb_2)=>
  some yb_2
 | .inr (.inr yc_2)=>
  some 0
theorem vD(r:Int)(h:nD a0 a1=some r):call G Ω0 E0 80 [(.a [(I a0.Many),(.l 136 (a0.Grants.map aF))]),(.a [(.l 134 (a1.Read.map a7)),(.l 134 (a1.Write.map a7))])] H0=some (Gf a0 a1 r):=
 aK G80 (du<|ao (.l (([a1.Read,a1.Write]).map (bD 134 a7)))<|ao (.i ((([a1.Read,a1.Write]).length:Nat):Int))<|.or (.ex fun (ya_2:Unit)=>ao (.lp .ret ⟨[(4,(I 2))],[],H0⟩)<|.nil) (.or (.ex fun (yb_2:Int)=>ao (.lp .ret ⟨[(4,(I yb_2))],[],H0⟩)<|.nil) (.ex fun (yc_2:(Nat×Bool))=>ao (.lp (.ex 0) ⟨[(2,(.p ⟨0,2⟩ 0)),(14,(.l 47 (([a1.Read,a1.Write]).map (bD 134 a7)))),(15,(I ((([a1.Read,a1.Write]).length:Nat):Int))),(16,(I (yc_2.1:Int))),(17,(.b yc_2.2))],[(2,[(I a0.Many),(.l 136 (a0.Grants.map aF))])],H0⟩)<|.nil))) fun L=>ai tt<|ai tt<|ai (rfl:Z0)<|ai (rfl:Z0)<|ai (rfl:[(.l 134 (a1.Read.map a7)),(.l 134 (a1.Write.map a7))]=([a1.Read,a1.Write]).map (bD 134 a7))<|ai (aL (bD 134 a7) ([a1.Read,a1.Write]))<|N6 h (ef (Cq a0 a1) 0) (fun ya_2 h=>L h) (fun yb_2 h=>L h) (fun yc_2 h=>L h)
end
section
variable (a0:Var)
abbrev DP(a0:Var)(r:Bool):aW×HP:=(.ret (.b r),H0)
def om:Option Bool:=
 if a0.Known=true then
  some false
 else
  if IntKind.i64.wrap ((a0.Label.Read.length:Int)+(a0.Label.Write.length:Int))=(a0.Label.Read.length:Int)+(a0.Label.Write.length:Int) then
   some (decide (0<((a0.Label.Read.length:Int)+(a0.Label.Write.length:Int))))
  else none
theorem AE(r:Bool)(h:om a0=some r):call G Ω0 E0 134 [(.a (lA a0))] H0=some (DP a0 r):=
 aK ZA (bt<|.or (SP<|.nil) (qE<|ao (.i (a0.Label.Read.length:Int))<|qE<|ao (.i (a0.Label.Write.length:Int))<|bt<|ao (.i ((a0.Label.Read.length:Int)+(a0.Label.Write.length:Int)))<|du<|.nil)) fun L=>ai tt<|ai (rfl:Z0)<|a8 h (fun h1 h=>ai (g1 (congrArg not h1))<|ai (g1 (congrArg not h1))<|ai (g1 (congrArg not h1))<|ai (g1 (congrArg not h1))<|ai (g1 (congrArg not h1))<|ai (g1 (congrArg not h1))<|ai (g1 (congrArg not h1))<|ai (g1 (congrArg not h1))<|ai (g1 (congrArg not h1))<|ai (g1 (congrArg not h1))<|ai (congrArg not h1)<|L h) (fun h1 h=>ai (g1 (congrArg not h1))<|ai (g1 (congrArg not h1))<|ai (g1 (congrArg not h1))<|ai (rfl:Z0)<|ai (g1 (congrArg not h1))<|ai (aL a7 a0.Label.Read)<|ai (g1 (congrArg not h1))<|ai (g1 (congrArg not h1))<|ai (g1 (congrArg not h1))<|ai (rfl:Z0)<|ai (g1 (congrArg not h1))<|ai (aL a7 a0.Label.Write)<|ai (g1 (congrArg not h1))<|aS h fun w2 h=>ai w2<|Ih (congrArg not h1)<|L h)
end
section
variable (a0:(List Var))
def iL(v0_8:Nat):Option (Nat⊕(Nat⊕(Nat×Bool))):=
 if (v0_8:Int)<(a0.length:Int) then
  (a0[v0_8]?).bind fun (y2:Var)=>
  (om y2).bind fun (r4:Bool)=>
  if r4=true then
   some (.inr (.inl v0_8))
  else
   if IntKind.i64.wrap ((v0_8:Int)+1)=((v0_8+1:Nat):Int) then
    some (.inl (v0_8+1))
   else none
 else
  some (.inr (.inr (v0_8,decide ((v0_8:Int)<(a0.length:Int)))))
abbrev oZ(v:Nat):St:=⟨[(0,(.l 51 (a0.map bz))),(1,(.f 134 [])),(7,(I (a0.length:Int))),(8,(I (v:Int)))],[],H0⟩
abbrev o0(x:(Nat⊕(Nat×Bool))):aR×St:=match x with | .inl z1=>(.ret,⟨[(4,(I (z1:Int)))],[],H0⟩) | .inr (z1,z2)=>((.ex 0),⟨[(0,(.l 51 (a0.map bz))),(1,(.f 134 [])),(7,(I (a0.length:Int))),(8,(I (z1:Int))),(9,(.b z2))],[],H0⟩)
theorem oo(v0_8:Nat)(o:Nat⊕(Nat⊕(Nat×Bool)))(h:iL a0 v0_8=some o):bI E0 Kl (oZ a0) (o0 a0) v0_8 o:=
 bP (.or (bt<|ao (.n v0_8)<|.ex fun (y2:Var)=>ao (.v (.a (lA y2)))<|xB fun r4=>oN (ao (.i ((v0_8+1:Nat):Int))<|.nil)) (bf<|.nil)) fun L=>cb h (fun h1 h=>ai (decide_eq_true h1)<|ai (rI v0_8)<|aP h fun y2 h3 h=>ai (aD bz h3)<|aQ h (AE y2) fun r4 h=>a8 h (fun h6 h=>ai h6<|L h) (fun h6 h=>ai h6<|aS h fun w7 h=>ai w7<|L h)) (fun h1 h=>ai (decide_eq_false h1)<|L h)
abbrev pY(a0:(List Var))(r:Int):aW×HP:=(.ret (I r),H0)
def jH:Option Int:=
 (lp (fun v=>iL a0 v) 0).bind fun (x1:(Nat⊕(Nat×Bool)))=>match x1 with
 | .inl ya_2=>
  some (ya_2:Int)
 | .inr yb_2=>
  some (-1)
theorem oq(r:Int)(h:jH a0=some r):call G Ω0 E0 160 [(.l 51 (a0.map bz)),(.f 134 [])] H0=some (pY a0 r):=
 aK ZV (ao (.i (a0.length:Int))<|.or (.ex fun (ya_2:Nat)=>ao (.lp .ret ⟨[(4,(I (ya_2:Int)))],[],H0⟩)<|.nil) (.ex fun (yb_2:(Nat×Bool))=>ao (.lp (.ex 0) ⟨[(0,(.l 51 (a0.map bz))),(1,(.f 134 [])),(7,(I (a0.length:Int))),(8,(I (yb_2.1:Int))),(9,(.b yb_2.2))],[],H0⟩)<|.nil)) fun L=>ai (aL bz a0)<|cN h (ef (oo a0) 0) (fun ya_2 h=>L h) (fun yb_2 h=>L h)
abbrev ot(a0:(List Var))(r:Bool):aW×HP:=(.ret (.b r),H0)
def eB:Option Bool:=
 (jH a0).bind fun (r1:Int)=>
 some (decide (0≤r1))
theorem mL(r:Bool)(h:eB a0=some r):call G Ω0 E0 133 [(.l 51 (a0.map bz)),(.f 134 [])] H0=some (ot a0 r):=
 aK Zz (xI fun r1=>.nil) fun L=>aQ h (oq a0) fun r1 h=>L h
def vE:List dM:=(gM 38 37)::⟨some 39,.fa 2 1,some ⟨38,false⟩,false⟩::⟨some 40,.ld none 39,some ⟨38,false⟩,false⟩::⟨some 41,.ln false 40,some ⟨38,false⟩,false⟩::⟨some 42,.fa 0 1,some ⟨38,false⟩,false⟩::⟨some 43,.fa 0 42,some ⟨38,false⟩,false⟩::⟨some 44,.ld none 43,some ⟨38,false⟩,false⟩::⟨some 45,.bo .gtr false 41 44,some ⟨38,false⟩,false⟩::(gp 46 (.pk 38 (.c (.b true)) 45))::[]
end
section
variable (a0:Program)
def ig(u2_1:Bool):Option Bool:=
 if u2_1=true then
  some true
 else
  some (decide (a0.ah.Many<(a0.Speak.length:Int)))
abbrev Cr(u2_1:Bool)(x:Bool):St:=⟨[(1,(.p ⟨0,1⟩ 0)),(46,(.b x))],[(1,(ay a0))],H0⟩
theorem me(u2_1:Bool)(w:List AV)(x:Bool)(h:ig a0 u2_1=some x):lx G Ω0 E0 [1,46] [1] vE ⟨[(37,(.b u2_1)),(36,(W w 0)),(35,(W w 1)),(34,(W w 2)),(33,(W w 3)),(32,(W w 4)),(31,(W w 5)),(30,(W w 6)),(29,(W w 7)),(28,(W w 8)),(27,(W w 9)),(26,(W w 10)),(25,(W w 11)),(24,(W w 12)),(23,(W w 13)),(22,(W w 14)),(21,(W w 15)),(20,(.b (decide (16<(a0.Vars.length:Int))))),(19,(.b (decide (16<(a0.Vars.length:Int))))),(18,(I (a0.Vars.length:Int))),(17,(.l 51 (a0.Vars.map bz))),(16,(.p ⟨0,1⟩ 5)),(1,(.p ⟨0,1⟩ 0))],[(1,(ay a0))],H0⟩=some (Cr a0 u2_1 x):=
 kC (.or (bf<|bf<|bf<|bf<|bf<|bf<|bf<|bt<|.nil) (tV<|ao (.i (a0.Speak.length:Int))<|bt<|bt<|bt<|bt<|bt<|bf<|.nil)) fun L=>a8 h (fun h7 h=>ai (g0 h7)<|ai (g0 h7)<|ai (g0 h7)<|ai (g0 h7)<|ai (g0 h7)<|ai (g0 h7)<|ai (g0 h7)<|ai h7<|L h) (fun h7 h=>Ky h7<|ai (aL (I) a0.Speak)<|ai (g0 h7)<|ai (g0 h7)<|ai (g0 h7)<|ai (rfl:Z0)<|ai (g0 h7)<|ai h7<|L h)
def Cs:List dM:=(gF 16 5 1)::(gQ 17 16)::(gp 18 (.ln false 17))::(gB 19 .gtr 18 (kI 16))::(gM 20 19)::⟨some 21,.fa 3 1,some ⟨20,false⟩,false⟩::⟨some 22,.ld none 21,some ⟨20,false⟩,false⟩::⟨some 23,.ln false 22,some ⟨20,false⟩,false⟩::⟨some 24,.bo .gtr false 23 (kI 5),some ⟨20,false⟩,false⟩::(gp 25 (.pk 20 (.c (.b true)) 24))::(gM 26 25)::⟨some 27,.fa 4 1,some ⟨26,false⟩,false⟩::⟨some 28,.ld none 27,some ⟨26,false⟩,false⟩::⟨some 29,.ln false 28,some ⟨26,false⟩,false⟩::⟨some 30,.bo .gtr false 29 (kI 5),some ⟨26,false⟩,false⟩::(gp 31 (.pk 26 (.c (.b true)) 30))::(gM 32 31)::⟨some 33,.fa 6 1,some ⟨32,false⟩,false⟩::⟨some 34,.ld none 33,some ⟨32,false⟩,false⟩::⟨some 35,.ln false 34,some ⟨32,false⟩,false⟩::⟨some 36,.bo .gtr false 35 (kI 5),some ⟨32,false⟩,false⟩::(gp 37 (.pk 32 (.c (.b true)) 36))::vE
def mW:Option Bool:=
 if 16<(a0.Vars.length:Int) then
  (ig a0 true).bind fun (x5:Bool)=>
  some x5
 else
  if 5<(a0.Ins.length:Int) then
   (ig a0 true).bind fun (x6:Bool)=>
   some x6
  else
   if 5<(a0.Outs.length:Int) then
    (ig a0 true).bind fun (x7:Bool)=>
    some x7
   else
    (ig a0 (decide (5<(a0.Funcs.length:Int)))).bind fun (x7:Bool)=>
    some x7
abbrev Ct(x:Bool):St:=⟨[(1,(.p ⟨0,1⟩ 0)),(46,(.b x))],[(1,(ay a0))],H0⟩
theorem Bj(x:Bool)(h:mW a0=some x):lx G Ω0 E0 [1,46] [1] Cs ⟨[(1,(.p ⟨0,1⟩ 0))],[(1,(ay a0))],H0⟩=some (Ct a0 x):=
 kC (bt<|ao (.i (a0.Vars.length:Int))<|.or (bf<|bf<|bf<|bf<|bt<|bf<|bf<|bf<|bf<|bt<|bf<|bf<|bf<|bf<|bt<|.jb (some 38) 8<|.ex fun (x5:Bool)=>ao (.jn ⟨[(1,(.p ⟨0,1⟩ 0)),(46,(.b x5))],[(1,(ay a0))],H0⟩)<|.nil) (tV<|ao (.i (a0.Ins.length:Int))<|kD<|.or (bf<|bf<|bf<|bf<|bt<|bf<|bf<|bf<|bf<|bt<|.jb (some 38) 8<|.ex fun (x6:Bool)=>ao (.jn ⟨[(1,(.p ⟨0,1⟩ 0)),(46,(.b x6))],[(1,(ay a0))],H0⟩)<|.nil) (tV<|ao (.i (a0.Outs.length:Int))<|kD<|.or (EI<|.jb (some 38) 8<|.ex fun (x7:Bool)=>ao (.jn ⟨[(1,(.p ⟨0,1⟩ 0)),(46,(.b x7))],[(1,(ay a0))],H0⟩)<|.nil) (tV<|ao (.i (a0.Funcs.length:Int))<|kD<|.jb (some 38) 8<|.ex fun (x7:Bool)=>ao (.jn ⟨[(1,(.p ⟨0,1⟩ 0)),(46,(.b x7))],[(1,(ay a0))],H0⟩)<|.nil)))) fun L=>ai (rfl:Z0)<|ai (aL bz a0.Vars)<|cb h (fun h4 h=>ai (g0 (decide_eq_true h4))<|ai (g0 (decide_eq_true h4))<|ai (g0 (decide_eq_true h4))<|ai (g0 (decide_eq_true h4))<|ai (decide_eq_true h4)<|ai ht<|ai ht<|ai ht<|ai ht<|ai tt<|ai ht<|ai ht<|ai ht<|ai ht<|ai tt<|aQ h (me a0 true [.sk,.sk,.sk,.sk,(.b true),(.b true),.sk,.sk,.sk,.sk,(.b true),(.b true),.sk,.sk,.sk,.sk]) fun x5 h=>L h) (fun h4 h=>Ky (decide_eq_false h4)<|ai (aL au a0.Ins)<|tU (decide_eq_false h4)<|cb h (fun h5 h=>ai (g0 (decide_eq_true h5))<|ai (g0 (decide_eq_true h5))<|ai (g0 (decide_eq_true h5))<|ai (g0 (decide_eq_true h5))<|ai (decide_eq_true h5)<|ai ht<|ai ht<|ai ht<|ai ht<|ai tt<|aQ h (me a0 true [.sk,.sk,.sk,.sk,(.b true),(.b true),.sk,.sk,.sk,.sk,(.b (decide (5<(a0.Ins.length:Int)))),(.b (decide (5<(a0.Ins.length:Int)))),(.b (decide (5<(a0.Ins.length:Int)))),(I (a0.Ins.length:Int)),(.l 49 (a0.Ins.map au)),(.p ⟨0,1⟩ 3)]) fun x6 h=>L h) (fun h5 h=>Ky (decide_eq_false h5)<|ai (aL au a0.Outs)<|tU (decide_eq_false h5)<|cb h (fun h6 h=>EH (decide_eq_true h6)<|aQ h (me a0 true [.sk,.sk,.sk,.sk,(.b (decide (5<(a0.Outs.length:Int)))),(.b (decide (5<(a0.Outs.length:Int)))),(.b (decide (5<(a0.Outs.length:Int)))),(I (a0.Outs.length:Int)),(.l 49 (a0.Outs.map au)),(.p ⟨0,1⟩ 4),(.b (decide (5<(a0.Ins.length:Int)))),(.b (decide (5<(a0.Ins.length:Int)))),(.b (decide (5<(a0.Ins.length:Int)))),(I (a0.Ins.length:Int)),(.l 49 (a0.Ins.map au)),(.p ⟨0,1⟩ 3)]) fun x7 h=>L h) (fun h6 h=>Ky (decide_eq_false h6)<|ai (aL ba a0.Funcs)<|tU (decide_eq_false h6)<|aQ h (me a0 (decide (5<(a0.Funcs.length:Int))) [(.b (decide (5<(a0.Funcs.length:Int)))),(I (a0.Funcs.length:Int)),(.l 112 (a0.Funcs.map ba)),(.p ⟨0,1⟩ 6),(.b (decide (5<(a0.Outs.length:Int)))),(.b (decide (5<(a0.Outs.length:Int)))),(.b (decide (5<(a0.Outs.length:Int)))),(I (a0.Outs.length:Int)),(.l 49 (a0.Outs.map au)),(.p ⟨0,1⟩ 4),(.b (decide (5<(a0.Ins.length:Int)))),(.b (decide (5<(a0.Ins.length:Int)))),(.b (decide (5<(a0.Ins.length:Int)))),(I (a0.Ins.length:Int)),(.l 49 (a0.Ins.map au)),(.p ⟨0,1⟩ 3)]) fun x7 h=>L h)))
def lM(r10:(List Label))(v0_58:Nat):Option (Nat⊕(Int⊕(Nat×Bool))):=
 if (v0_58:Int)<(r10.length:Int) then
  (r10[v0_58]?).bind fun (y13:Label)=>
  (nD a0.ah y13).bind fun (r15:Int)=>
  if (r15 !=0)=true then
   some (.inr (.inl r15))
  else
   if IntKind.i64.wrap ((v0_58:Int)+1)=((v0_58+1:Nat):Int) then
    some (.inl (v0_58+1))
   else none
 else
  some (.inr (.inr (v0_58,decide ((v0_58:Int)<(r10.length:Int)))))
abbrev DQ(r10:(List Label))(v:Nat):St:=⟨[(1,(.e (.a (ay a0)) 0)),(56,(.l 49 (r10.map au))),(57,(I (r10.length:Int))),(58,(I (v:Int)))],[],H0⟩
abbrev DR(r10:(List Label))(x:(Int⊕(Nat×Bool))):aR×St:=match x with | .inl z1=>(.ret,⟨[(2,(I z1))],[],H0⟩) | .inr (z1,z2)=>((.ex 0),⟨[(1,(.e (.a (ay a0)) 0)),(56,(.l 49 (r10.map au))),(57,(I (r10.length:Int))),(58,(I (z1:Int))),(59,(.b z2))],[],H0⟩)
theorem Cu(r10:(List Label))(v0_58:Nat)(o:Nat⊕(Int⊕(Nat×Bool)))(h:lM a0 r10 v0_58=some o):bI E0 NY (DQ a0 r10) (DR a0 r10) v0_58 o:=
 bP (.or (bt<|ao (.n v0_58)<|.ex fun (y13:Label)=>ao (.v (.a [(.l 134 (y13.Read.map a7)),(.l 134 (y13.Write.map a7))]))<|dE<|xI fun r15=>oN (ao (.i ((v0_58+1:Nat):Int))<|.nil)) (bf<|.nil)) fun L=>cb h (fun h12 h=>ai (decide_eq_true h12)<|ai (rI v0_58)<|aP h fun y13 h14 h=>ai (aD au h14)<|FZ<|aQ h (vD a0.ah y13) fun r15 h=>a8 h (fun h17 h=>ai h17<|L h) (fun h17 h=>ai h17<|aS h fun w18 h=>ai w18<|L h)) (fun h12 h=>ai (decide_eq_false h12)<|L h)
def lN(v1_73:Nat):Option (Nat⊕(Int⊕(Nat×Bool))):=
 if (v1_73:Int)<(a0.Vars.length:Int) then
  (a0.Vars[v1_73]?).bind fun (y16:Var)=>
  (nD a0.ah y16.Label).bind fun (r18:Int)=>
  if (r18 !=0)=true then
   some (.inr (.inl r18))
  else
   if IntKind.i64.wrap ((v1_73:Int)+1)=((v1_73+1:Nat):Int) then
    some (.inl (v1_73+1))
   else none
 else
  some (.inr (.inr (v1_73,decide ((v1_73:Int)<(a0.Vars.length:Int)))))
abbrev DS(v:Nat):St:=⟨[(1,(.e (.a (ay a0)) 0)),(71,(.l 51 (a0.Vars.map bz))),(72,(I (a0.Vars.length:Int))),(73,(I (v:Int)))],[],H0⟩
abbrev DT(x:(Int⊕(Nat×Bool))):aR×St:=match x with | .inl z1=>(.ret,⟨[(2,(I z1))],[],H0⟩) | .inr (z1,z2)=>((.ex 2),⟨[(1,(.e (.a (ay a0)) 0)),(71,(.l 51 (a0.Vars.map bz))),(72,(I (a0.Vars.length:Int))),(73,(I (z1:Int))),(74,(.b z2))],[],H0⟩)
theorem Cv(v1_73:Nat)(o:Nat⊕(Int⊕(Nat×Bool)))(h:lN a0 v1_73=some o):bI E0 NZ (DS a0) (DT a0) v1_73 o:=
 bP (.or (bt<|ao (.n v1_73)<|.ex fun (y16:Var)=>ao (.v (.a (lA y16)))<|dE<|xI fun r18=>oN (ao (.i ((v1_73+1:Nat):Int))<|.nil)) (bf<|.nil)) fun L=>cb h (fun h15 h=>ai (decide_eq_true h15)<|ai (rI v1_73)<|aP h fun y16 h17 h=>ai (aD bz h17)<|FZ<|aQ h (vD a0.ah y16.Label) fun r18 h=>a8 h (fun h20 h=>ai h20<|L h) (fun h20 h=>ai h20<|aS h fun w21 h=>ai w21<|L h)) (fun h15 h=>ai (decide_eq_false h15)<|L h)
abbrev Gg(a0:Program)(r:Int):aW×HP:=(.ret (I r),H0)
def qJ:Option Int:=
 (od a0.ah).bind fun (r1:Int)=>
 if (r1 !=0)=true then
  some r1
 else
  (mW a0).bind fun (x4:Bool)=>
  if x4=true then
   some 2
  else
   (eA a0.Speak a0).bind fun (r7:Bool)=>
   if r7=true then
    some 5
   else
    (fx ([a0.Ins,a0.Outs])).bind fun (r10:(List Label))=>
    (lp (fun v=>lM a0 r10 v) 0).bind fun (x12:(Int⊕(Nat×Bool)))=>match x12 with
    | .inl ya_13=>
     some ya_13
    | .inr yb_13=>
     (lp (fun v=>lN a0 v) 0).bind fun (x15:(Int⊕(Nat×Bool)))=>match x15 with
     | .inl ya_16=>
      some ya_16
     | .inr yb_16=>
      (eB a0.Vars).bind fun (r18:Bool)=>
      if r18=true then
       some 1
      else
       some 0
theorem Cw(r:Int)(h:qJ a0=some r):call G Ω0 E0 93 [(.a (ay a0))] H0=some (Gg a0 r):=
 aK G93 (bt<|xI fun r1=>oN (.jb (some 16) 30<|.ex fun (x4:Bool)=>ao (.jn ⟨[(1,(.p ⟨0,1⟩ 0)),(46,(.b x4))],[(1,(ay a0))],H0⟩)<|oN (xB fun r7=>oN (ao (.l (([a0.Ins,a0.Outs]).map (bD 49 au)))<|.ex fun (r10:(List Label))=>ao (.v (.l 49 (r10.map au)))<|ao (.i (r10.length:Int))<|.or (.ex fun (ya_13:Int)=>ao (.lp .ret ⟨[(2,(I ya_13))],[],H0⟩)<|.nil) (.ex fun (yb_13:(Nat×Bool))=>ao (.lp (.ex 0) ⟨[(1,(.e (.a (ay a0)) 0)),(56,(.l 49 (r10.map au))),(57,(I (r10.length:Int))),(58,(I (yb_13.1:Int))),(59,(.b yb_13.2))],[],H0⟩)<|ao (.i (a0.Vars.length:Int))<|.or (.ex fun (ya_16:Int)=>ao (.lp .ret ⟨[(2,(I ya_16))],[],H0⟩)<|.nil) (.ex fun (yb_16:(Nat×Bool))=>ao (.lp (.ex 2) ⟨[(1,(.e (.a (ay a0)) 0)),(71,(.l 51 (a0.Vars.map bz))),(72,(I (a0.Vars.length:Int))),(73,(I (yb_16.1:Int))),(74,(.b yb_16.2))],[],H0⟩)<|xB fun r18=>oN (.nil))))))) fun L=>ai tt<|ai (rfl:Z0)<|aQ h (Az a0.ah) fun r1 h=>a8 h (fun h3 h=>ai h3<|L h) (fun h3 h=>ai h3<|aQ h (Bj a0) fun x4 h=>a8 h (fun h6 h=>ai h6<|L h) (fun h6 h=>sZ h6<|aQ h (mK a0.Speak a0) fun r7 h=>a8 h (fun h9 h=>ai h9<|L h) (fun h9 h=>ai h9<|ai (rfl:[(.l 49 (a0.Ins.map au)),(.l 49 (a0.Outs.map au))]=([a0.Ins,a0.Outs]).map (bD 49 au))<|aQ h (rp ([a0.Ins,a0.Outs])) fun r10 h=>ai (aL au r10)<|cN h (ef (Cu a0 r10) 0) (fun ya_13 h=>L h) (fun yb_13 h=>ai (aL bz a0.Vars)<|cN h (ef (Cv a0) 0) (fun ya_16 h=>L h) (fun yb_16 h=>aQ h (mL a0.Vars) fun r18 h=>a8 h (fun h20 h=>ai h20<|L h) (fun h20 h=>ai h20<|L h))))))
end
section
variable (dp:Nat)(hp:HP)(k0:Key)
abbrev E8(dp:Nat)(hp:HP)(k0:Key)(a0:Stmt)(a1:Int)(c0:Int)(r:(Bool×Int)):aW×HP:=(.ret (.b r.1),ad hp k0 [(I r.2)])
def sQ(a0:Stmt)(a1:Int)(c0:Int):Option (Bool×Int):=
 if IntKind.i64.wrap (c0+1)=c0+1 then
  if (c0+1)≤50 then
   some ((decide (a1≤6)),(c0+1))
  else
   some (false,(c0+1))
 else none
theorem Bk(hk_k0:k0.dp<dp)(hz:aN dp hp)(a0:Stmt)(a1:Int)(c0:Int)(r:(Bool×Int))(h:sQ a0 a1 c0=some r):call G Ω0 ⟨dp,false⟩ 135 [(.a (af a0)),(I a1),(.p k0 0)] (ad hp k0 [(I c0)])=some (E8 dp hp k0 a0 a1 c0 r):=
 aK ZB (bf<|ao (.l [(I c0)])<|ao (.i (c0+1))<|bf<|ao (.l [(I c0)])<|bf<|ao (.h (ad hp k0 [(I (c0+1))]))<|bf<|ao (.l [(I (c0+1))])<|.or (dE<|.nil) (B9<|.nil)) fun L=>ai ((by simp [af,AV.aI,AV.aJ,AV.deep,AV.bn,aj hk_k0,Nat.le_of_lt hk_k0]):(((.a (af a0)):AV).deep dp&&(([(0,(.a (af a0))),(1,(I a1)),(2,(.p k0 0))]:List (Nat×AV)).all (fun y=>y.2.aI ⟨dp,3⟩)&&([]:List (Nat×List AV)).all (fun y=>AV.aJ ⟨dp,3⟩ y.2)))=true)<|ai (Nat.ne_of_lt hk_k0)<|ai (aG hp k0 [(I c0)])<|aS h fun w1 h=>ai w1<|ai ff<|ai (Nat.ne_of_lt hk_k0)<|ai (aG hp k0 [(I c0)])<|ai tt<|ai (Nat.ne_of_lt hk_k0)<|ai (bh hp k0 [(I c0)] [(I (c0+1))])<|ai (Nat.ne_of_lt hk_k0)<|ai (aG hp k0 [(I (c0+1))])<|cb h (fun h2 h=>qD (decide_eq_true h2)<|L h) (fun h2 h=>qD (decide_eq_false h2)<|L h)
end
section
variable (dp:Nat)(hp:HP)(k0:Key)(a0:(List Stmt))(a1:Int)(c0:Int)
abbrev tj(dp:Nat)(hp:HP)(k0:Key)(a0:(List Stmt))(a1:Int)(c0:Int)(r:(Bool×Int)):aW×HP:=(.ret (.b r.1),ad hp k0 [(I r.2)])
abbrev iV(r:(Bool×Int)):Prop:=call G Ω0 ⟨dp,false⟩ 99 [(.l 88 (a0.map aH)),(I a1),(.f 135 [(.p k0 0)])] (ad hp k0 [(I c0)])=some (tj dp hp k0 a0 a1 c0 r)
end
structure iW where
 f_scope_Walk__scope_few_1:(List Stmt)→Int→Int→Option (Bool×Int)
structure iz(R:iW):Prop where
 f_scope_Walk__scope_few_1:∀ (dp:Nat)(hp:HP)(k0:Key)(hk_k0:k0.dp<dp)(hz:aN dp hp)(a0:(List Stmt))(a1:Int)(c0:Int)(r:(Bool×Int)),R.f_scope_Walk__scope_few_1 a0 a1 c0=some r→iV dp hp k0 a0 a1 c0 r
section
variable (R:iW)(a0:(List Stmt))(a1:Int)(dp:Nat)(hp:HP)(k0:Key)(c0:Int)
def eU(v0_11:Nat)(v0_k0_0:Int):Option ((Nat×Int)⊕(Int⊕(Nat×Bool×Int))):=
 if (v0_11:Int)<(a0.length:Int) then
  (a0[v0_11]?).bind fun (y2:Stmt)=>
  (sQ y2 a1 v0_k0_0).bind fun (r4:(Bool×Int))=>
  if r4.1=true then
   if IntKind.i64.wrap (a1+1)=a1+1 then
    (R.f_scope_Walk__scope_few_1 y2.Then (a1+1) r4.2).bind fun (r8:(Bool×Int))=>
    if r8.1=true then
     (R.f_scope_Walk__scope_few_1 y2.Else (a1+1) r8.2).bind fun (r11:(Bool×Int))=>
     if r11.1=true then
      if IntKind.i64.wrap ((v0_11:Int)+1)=((v0_11+1:Nat):Int) then
       some (.inl (v0_11+1,r11.2))
      else none
     else
      some (.inr (.inl r11.2))
    else
     some (.inr (.inl r8.2))
   else none
  else
   some (.inr (.inl r4.2))
 else
  some (.inr (.inr (v0_11,decide ((v0_11:Int)<(a0.length:Int)),v0_k0_0)))
abbrev so(dp:Nat)(hp:HP)(k0:Key)(a0:(List Stmt))(a1:Int)(v:(Nat×Int)):St:=⟨[(1,(I a1)),(2,(.f 135 [(.p k0 0)])),(9,(.l 88 (a0.map aH))),(10,(I (a0.length:Int))),(11,(I (v.1:Int)))],[],ad hp k0 [(I v.2)]⟩
abbrev sr(dp:Nat)(hp:HP)(k0:Key)(a0:(List Stmt))(a1:Int)(x:(Int⊕(Nat×Bool×Int))):aR×St:=match x with | .inl z1=>(.ret,⟨[(6,(.b false))],[],ad hp k0 [(I z1)]⟩) | .inr (z1,z2,z3)=>((.ex 0),⟨[(1,(I a1)),(2,(.f 135 [(.p k0 0)])),(9,(.l 88 (a0.map aH))),(10,(I (a0.length:Int))),(11,(I (z1:Int))),(12,(.b z2))],[],ad hp k0 [(I z3)]⟩)
theorem rq(hR:iz R)(dp:Nat)(hp:HP)(k0:Key)(hk_k0:k0.dp<dp)(hz:aN dp hp)(a0:(List Stmt))(a1:Int)(v0_11:Nat)(v0_k0_0:Int)(o:(Nat×Int)⊕(Int⊕(Nat×Bool×Int)))(h:eU R a0 a1 v0_11 v0_k0_0=some o):bI ⟨dp,false⟩ Fv (so dp hp k0 a0 a1) (sr dp hp k0 a0 a1) (v0_11,v0_k0_0) o:=
 bP (.or (bt<|ao (.n v0_11)<|.ex fun (y2:Stmt)=>ao (.v (.a (af y2)))<|dE<|.ex fun (r4:(Bool×Int))=>ao (.v (.b r4.1))<|ao (.h (boxes dp [(8,(af y2))] (ad hp k0 [(I r4.2)])))<|ao (.bx [(8,(af y2))])<|ao (.h (ad hp k0 [(I r4.2)]))<|.or (qE<|ao (.i (a1+1))<|du<|.ex fun (r8:(Bool×Int))=>ao (.v (.b r8.1))<|ao (.h (boxes dp [(8,(af y2))] (ad hp k0 [(I r8.2)])))<|ao (.bx [(8,(af y2))])<|ao (.h (ad hp k0 [(I r8.2)]))<|kD<|.or (qE<|ao (.i (a1+1))<|du<|.ex fun (r11:(Bool×Int))=>ao (.v (.b r11.1))<|ao (.h (boxes dp [(8,(af y2))] (ad hp k0 [(I r11.2)])))<|ao (.bx [(8,(af y2))])<|ao (.h (ad hp k0 [(I r11.2)]))<|kD<|.or (bf<|ao (.i ((v0_11+1:Nat):Int))<|.nil) (bt<|.nil)) (MN<|.nil)) (MO<|.nil)) (bf<|.nil)) fun L=>cb h (fun h1 h=>ai (decide_eq_true h1)<|ai (rI v0_11)<|aP h fun y2 h3 h=>ai (iy aH h3 (kY _))<|ai ((by simp [af,AV.aI,AV.aJ,AV.deep,AV.bn,aj hk_k0,Nat.le_of_lt hk_k0]):(([(14,(.a (af y2))),(13,(.e (.a (af y2)) 0)),(1,(I a1)),(2,(.f 135 [(.p k0 0)])),(9,(.l 88 (a0.map aH))),(10,(I (a0.length:Int))),(11,(I (v0_11:Int)))]:List (Nat×AV)).all (fun y=>y.2.aI ⟨dp,8⟩)&&([]:List (Nat×List AV)).all (fun y=>AV.aJ ⟨dp,8⟩ y.2))=true)<|ai ff<|ai (rN dp)<|ai tt<|ai (rN dp)<|ai (rN dp)<|eY<|aP h fun r4 ek5 h=>have ek5:=cO hk_k0 (Bk (dp+1) (boxes dp [(8,(af y2))] (ad hp k0 [(I v0_k0_0)])) k0 (Nat.lt_succ_of_lt hk_k0) (az (ab hk_k0 (hz))) y2 a1 v0_k0_0 _ ek5);ai ek5<|ai (cL ek5 (by kernel_rfl) (by kernel_rfl))<|ai (cM ek5 (ab hk_k0 (hz)))<|a8 h (fun h6 h=>sL (congrArg not h6)<|ai (rN dp)<|sL (congrArg not h6)<|aS h fun w7 h=>ai w7<|A7 (congrArg not h6)<|aP h fun r8 ek9 h=>have ek9:=cO hk_k0 (hR.f_scope_Walk__scope_few_1 (dp+1) (boxes dp [(8,(af y2))] (ad hp k0 [(I r4.2)])) k0 (Nat.lt_succ_of_lt hk_k0) (az (ab hk_k0 (hz))) y2.Then (a1+1) r4.2 _ ek9);ai ek9<|ai (cL ek9 (by kernel_rfl) (by kernel_rfl))<|ai (cM ek9 (ab hk_k0 (hz)))<|tU (congrArg not h6)<|a8 h (fun h10 h=>sL (congrArg not h10)<|ai (rN dp)<|sL (congrArg not h10)<|ai w7<|A7 (congrArg not h10)<|aP h fun r11 ek12 h=>have ek12:=cO hk_k0 (hR.f_scope_Walk__scope_few_1 (dp+1) (boxes dp [(8,(af y2))] (ad hp k0 [(I r8.2)])) k0 (Nat.lt_succ_of_lt hk_k0) (az (ab hk_k0 (hz))) y2.Else (a1+1) r8.2 _ ek12);ai ek12<|ai (cL ek12 (by kernel_rfl) (by kernel_rfl))<|ai (cM ek12 (ab hk_k0 (hz)))<|tU (congrArg not h10)<|a8 h (fun h13 h=>ai (congrArg not h13)<|aS h fun w14 h=>ai w14<|L h) (fun h13 h=>ai (congrArg not h13)<|L h)) (fun h10 h=>MH (congrArg not h10)<|L h)) (fun h6 h=>MI (congrArg not h6)<|L h)) (fun h1 h=>ai (decide_eq_false h1)<|L h)
def fc:Option (Bool×Int):=
 (lp (fun v=>eU R a0 a1 v.1 v.2) (0,c0)).bind fun (x1:(Int⊕(Nat×Bool×Int)))=>match x1 with
 | .inl ya_2=>
  some (false,ya_2)
 | .inr yb_2=>
  some (true,yb_2.2.2)
theorem qY(hR:iz R)(dp:Nat)(hp:HP)(k0:Key)(hk_k0:k0.dp<dp)(hz:aN dp hp)(a0:(List Stmt))(a1:Int)(c0:Int)(r:(Bool×Int))(h:fc R a0 a1 c0=some r):iV dp hp k0 a0 a1 c0 r:=
 aK Sw (ao (.i (a0.length:Int))<|.or (.ex fun (ya_2:Int)=>ao (.lp .ret ⟨[(6,(.b false))],[],ad hp k0 [(I ya_2)]⟩)<|.nil) (.ex fun (yb_2:(Nat×Bool×Int))=>ao (.lp (.ex 0) ⟨[(1,(I a1)),(2,(.f 135 [(.p k0 0)])),(9,(.l 88 (a0.map aH))),(10,(I (a0.length:Int))),(11,(I (yb_2.1:Int))),(12,(.b yb_2.2.1))],[],ad hp k0 [(I yb_2.2.2)]⟩)<|.nil)) fun L=>ai (aL aH a0)<|cN h (ef (fun v=>rq R hR dp hp k0 hk_k0 hz a0 a1 v.1 v.2) (0,c0)) (fun ya_2 h=>L h) (fun yb_2 h=>L h)
def dq:Nat→iW
 | 0=>⟨fun z0 z1 z2=>none⟩
 | n+1=>⟨fc (dq n)⟩
theorem my:∀ n,iz (dq n)
 | 0=>⟨fun _ _ _ _ _ _ _ _ r h=>(by cases h)⟩
 | n+1=>⟨fun dp hp k0 hk_k0 hz a0 a1 c0 r h=>qY _ (my n) dp hp k0 hk_k0 hz a0 a1 c0 r h⟩
def fy:Option (Bool×Int):=ev fun n=>(dq n).f_scope_Walk__scope_few_1 a0 a1 c0
theorem lO(hk_k0:k0.dp<dp)(hz:aN dp hp)(a0:(List Stmt))(a1:Int)(c0:Int)(r:(Bool×Int))(h:fy a0 a1 c0=some r):iV dp hp k0 a0 a1 c0 r:=by
 obtain ⟨n,hn⟩:=qh h
 exact (my n).f_scope_Walk__scope_few_1 dp hp k0 hk_k0 hz a0 a1 c0 r hn
end
section
variable (a0:Program)
def pM(v0_11:Nat)(v0_3_0:Int):Option ((Nat×Int)⊕(Unit⊕(Nat×Bool×Int))):=
 if (v0_11:Int)<(a0.Funcs.length:Int) then
  (a0.Funcs[v0_11]?).bind fun (y2:Func)=>
  (fy y2.Body 1 v0_3_0).bind fun (r4:(Bool×Int))=>
  if r4.1=true then
   if IntKind.i64.wrap ((v0_11:Int)+1)=((v0_11+1:Nat):Int) then
    some (.inl (v0_11+1,r4.2))
   else none
  else
   some (.inr (.inl ()))
 else
  some (.inr (.inr (v0_11,decide ((v0_11:Int)<(a0.Funcs.length:Int)),v0_3_0)))
abbrev E9(v:(Nat×Int)):St:=⟨[(1,(.p ⟨0,1⟩ 0)),(4,(.f 135 [(.p ⟨0,3⟩ 0)])),(9,(.l 112 (a0.Funcs.map ba))),(10,(I (a0.Funcs.length:Int))),(11,(I (v.1:Int)))],[(1,(ay a0)),(3,[(I v.2)])],H0⟩
abbrev Fa(x:(Unit⊕(Nat×Bool×Int))):aR×St:=match x with | .inl ()=>(.ret,⟨[(2,(.b false))],[],H0⟩) | .inr (z1,z2,z3)=>((.ex 0),⟨[(1,(.p ⟨0,1⟩ 0)),(4,(.f 135 [(.p ⟨0,3⟩ 0)])),(9,(.l 112 (a0.Funcs.map ba))),(10,(I (a0.Funcs.length:Int))),(11,(I (z1:Int))),(12,(.b z2))],[(1,(ay a0)),(3,[(I z3)])],H0⟩)
theorem DU(v0_11:Nat)(v0_3_0:Int)(o:(Nat×Int)⊕(Unit⊕(Nat×Bool×Int)))(h:pM a0 v0_11 v0_3_0=some o):bI E0 N0 (E9 a0) (Fa a0) (v0_11,v0_3_0) o:=
 bP (.or (bt<|ao (.n v0_11)<|.ex fun (y2:Func)=>ao (.v (.a (cD y2)))<|dE<|.ex fun (r4:(Bool×Int))=>ao (.v (.b r4.1))<|ao (.h (boxes 0 [(1,(ay a0)),(3,[(I r4.2)]),(6,(cD y2))] H0))<|ao (.bx [(1,(ay a0)),(3,[(I r4.2)]),(6,(cD y2))])<|ao (.h (H0))<|.or (bf<|ao (.i ((v0_11+1:Nat):Int))<|.nil) (bt<|.nil)) (bf<|.nil)) fun L=>cb h (fun h1 h=>ai (decide_eq_true h1)<|ai (rI v0_11)<|aP h fun y2 h3 h=>ai (aD ba h3)<|ai tt<|ai ff<|ai (rfl:Z0)<|ai tt<|ai (rfl:Z0)<|ai (rfl:Z0)<|ai ff<|ai tt<|aP h fun r4 ek5 h=>have ek5:call G Ω0 ⟨0+1,false⟩ 99 [(.l 88 (y2.Body.map aH)),(I 1),(.f 135 [(.p ⟨0,3⟩ 0)])] (boxes 0 [(1,(ay a0)),(3,[(I v0_3_0)]),(6,(cD y2))] H0)=some (.ret (.b r4.1),boxes 0 [(1,(ay a0)),(3,[(I r4.2)]),(6,(cD y2))] H0):=cT (cz (bx1:=[(1,(ay a0)),(3,[(I v0_3_0)]),(6,(cD y2))]) (by kernel_rfl) (by kernel_rfl)) (cz (bx1:=[(1,(ay a0)),(3,[(I r4.2)]),(6,(cD y2))]) (by kernel_rfl) (by kernel_rfl)) (lO (0+1) (boxes 0 [(1,(ay a0)),(3,[(I v0_3_0)]),(6,(cD y2))] H0) ⟨0,3⟩ (Nat.lt_succ_self 0) (az (dJ 0)) y2.Body 1 v0_3_0 _ ek5);ai ek5<|ai (cL ek5 (by kernel_rfl) (by kernel_rfl))<|ai (cM ek5 (dJ 0))<|a8 h (fun h6 h=>ai (congrArg not h6)<|aS h fun w7 h=>ai w7<|L h) (fun h6 h=>ai (congrArg not h6)<|L h)) (fun h1 h=>ai (decide_eq_false h1)<|L h)
abbrev HD(a0:Program)(r:Bool):aW×HP:=(.ret (.b r),H0)
def rP:Option Bool:=
 (lp (fun v=>pM a0 v.1 v.2) (0,0)).bind fun (x1:(Unit⊕(Nat×Bool×Int)))=>match x1 with
 | .inl ya_2=>
  some false
 | .inr yb_2=>
  (fy a0.Main 1 yb_2.2.2).bind fun (r4:(Bool×Int))=>
  some r4.1
theorem DV(r:Bool)(h:rP a0=some r):call G Ω0 E0 94 [(.a (ay a0))] H0=some (HD a0 r):=
 aK G94 (dE<|ao (.i (a0.Funcs.length:Int))<|.or (.ex fun (ya_2:Unit)=>ao (.lp .ret ⟨[(2,(.b false))],[],H0⟩)<|.nil) (.ex fun (yb_2:(Nat×Bool×Int))=>ao (.lp (.ex 0) ⟨[(1,(.p ⟨0,1⟩ 0)),(4,(.f 135 [(.p ⟨0,3⟩ 0)])),(9,(.l 112 (a0.Funcs.map ba))),(10,(I (a0.Funcs.length:Int))),(11,(I (yb_2.1:Int))),(12,(.b yb_2.2.1))],[(1,(ay a0)),(3,[(I yb_2.2.2)])],H0⟩)<|bt<|.ex fun (r4:(Bool×Int))=>ao (.v (.b r4.1))<|ao (.h (boxes 0 [(1,(ay a0)),(3,[(I r4.2)])] H0))<|ao (.bx [(1,(ay a0)),(3,[(I r4.2)])])<|ao (.h (H0))<|.nil)) fun L=>ai tt<|ai tt<|ai ff<|ai (rfl:Z0)<|ai tt<|ai (rfl:Z0)<|ai (rfl:Z0)<|ai (aL ba a0.Funcs)<|cN h (ef (fun v=>DU a0 v.1 v.2) (0,0)) (fun ya_2 h=>L h) (fun yb_2 h=>ai (rfl:Z0)<|ai ff<|ai tt<|aP h fun r4 ek5 h=>have ek5:call G Ω0 ⟨0+1,false⟩ 99 [(.l 88 (a0.Main.map aH)),(I 1),(.f 135 [(.p ⟨0,3⟩ 0)])] (boxes 0 [(1,(ay a0)),(3,[(I yb_2.2.2)])] H0)=some (.ret (.b r4.1),boxes 0 [(1,(ay a0)),(3,[(I r4.2)])] H0):=cT (cz (bx1:=[(1,(ay a0)),(3,[(I yb_2.2.2)])]) (by kernel_rfl) (by kernel_rfl)) (cz (bx1:=[(1,(ay a0)),(3,[(I r4.2)])]) (by kernel_rfl) (by kernel_rfl)) (lO (0+1) (boxes 0 [(1,(ay a0)),(3,[(I yb_2.2.2)])] H0) ⟨0,3⟩ (Nat.lt_succ_self 0) (az (dJ 0)) a0.Main 1 yb_2.2.2 _ ek5);ai ek5<|ai (cL ek5 (by kernel_rfl) (by kernel_rfl))<|ai (cM ek5 (dJ 0))<|L h)
end
section
variable (a0:(List Int))(a1:Int)
def iX(v0_8:Nat):Option (Nat⊕(Nat⊕(Nat×Bool))):=
 if (v0_8:Int)<(a0.length:Int) then
  (a0[v0_8]?).bind fun (y2:Int)=>
  if (a1==y2)=true then
   some (.inr (.inl v0_8))
  else
   if IntKind.i64.wrap ((v0_8:Int)+1)=((v0_8+1:Nat):Int) then
    some (.inl (v0_8+1))
   else none
 else
  some (.inr (.inr (v0_8,decide ((v0_8:Int)<(a0.length:Int)))))
abbrev xA(v:Nat):St:=⟨[(0,(.l 3 (a0.map (I)))),(1,(I a1)),(7,(I (a0.length:Int))),(8,(I (v:Int)))],[],H0⟩
abbrev xC(x:(Nat⊕(Nat×Bool))):aR×St:=match x with | .inl z1=>(.ret,⟨[(4,(I (z1:Int)))],[],H0⟩) | .inr (z1,z2)=>((.ex 0),⟨[(0,(.l 3 (a0.map (I)))),(1,(I a1)),(7,(I (a0.length:Int))),(8,(I (z1:Int))),(9,(.b z2))],[],H0⟩)
theorem wL(v0_8:Nat)(o:Nat⊕(Nat⊕(Nat×Bool)))(h:iX a0 a1 v0_8=some o):bI E0 Km (xA a0 a1) (xC a0 a1) v0_8 o:=
 bP (.or (bt<|ao (.n v0_8)<|xI fun y2=>oN (ao (.i ((v0_8+1:Nat):Int))<|.nil)) (bf<|.nil)) fun L=>cb h (fun h1 h=>ai (decide_eq_true h1)<|ai (rI v0_8)<|aP h fun y2 h3 h=>ai (aD (I) h3)<|a8 h (fun h4 h=>ai h4<|L h) (fun h4 h=>ai h4<|aS h fun w5 h=>ai w5<|L h)) (fun h1 h=>ai (decide_eq_false h1)<|L h)
abbrev za(a0:(List Int))(a1:Int)(r:Int):aW×HP:=(.ret (I r),H0)
def nE:Option Int:=
 (lp (fun v=>iX a0 a1 v) 0).bind fun (x1:(Nat⊕(Nat×Bool)))=>match x1 with
 | .inl ya_2=>
  some (ya_2:Int)
 | .inr yb_2=>
  some (-1)
theorem wM(r:Int)(h:nE a0 a1=some r):call G Ω0 E0 161 [(.l 3 (a0.map (I))),(I a1)] H0=some (za a0 a1 r):=
 aK ZW (ao (.i (a0.length:Int))<|.or (.ex fun (ya_2:Nat)=>ao (.lp .ret ⟨[(4,(I (ya_2:Int)))],[],H0⟩)<|.nil) (.ex fun (yb_2:(Nat×Bool))=>ao (.lp (.ex 0) ⟨[(0,(.l 3 (a0.map (I)))),(1,(I a1)),(7,(I (a0.length:Int))),(8,(I (yb_2.1:Int))),(9,(.b yb_2.2))],[],H0⟩)<|.nil)) fun L=>ai (aL (I) a0)<|cN h (ef (wL a0 a1) 0) (fun ya_2 h=>L h) (fun yb_2 h=>L h)
abbrev wN(a0:(List Int))(a1:Int)(r:Bool):aW×HP:=(.ret (.b r),H0)
def ij:Option Bool:=
 (nE a0 a1).bind fun (r1:Int)=>
 some (decide (0≤r1))
theorem uf(r:Bool)(h:ij a0 a1=some r):call G Ω0 E0 136 [(.l 3 (a0.map (I))),(I a1)] H0=some (wN a0 a1 r):=
 aK ZC (xI fun r1=>.nil) fun L=>aQ h (wM a0 a1) fun r1 h=>L h
end
section
variable (a0:Int)(dp:Nat)(hp:HP)(k0:Key)(c0:Checker)
abbrev Fb(a0:Int)(r:(Bool×Bool×Bool)):aW×HP:=(.ret (.tp [(.b r.1),(.b r.2.1),(.b r.2.2)]),H0)
def pN:Option (Bool×Bool×Bool):=
 if (a0 !=4)=true then
  if 2≤a0 then
   if (a0 !=2)=true then
    some ((decide (a0<7)),(decide (a0≤4)),(a0 !=3))
   else
    some ((decide (a0<7)),(decide (a0≤4)),false)
  else
   if (a0 !=2)=true then
    some ((decide (a0<7)),false,(a0 !=3))
   else
    some ((decide (a0<7)),false,false)
 else
  if 2≤a0 then
   if (a0 !=2)=true then
    some (false,(decide (a0≤4)),(a0 !=3))
   else
    some (false,(decide (a0≤4)),false)
  else
   if (a0 !=2)=true then
    some (false,false,(a0 !=3))
   else
    some (false,false,false)
theorem Bl(r:(Bool×Bool×Bool))(h:pN a0=some r):call G Ω0 E0 162 [(I a0)] H0=some (Fb a0 r):=
 aK ZX (.or (dE<|.or (dE<|.or (dE<|.nil) (B9<|.nil)) (B9<|.or (dE<|.nil) (B9<|.nil))) (B9<|.or (dE<|.or (dE<|.nil) (B9<|.nil)) (B9<|.or (dE<|.nil) (B9<|.nil)))) fun L=>a8 h (fun h1 h=>qD h1<|cb h (fun h2 h=>qD (decide_eq_true h2)<|a8 h (fun h3 h=>qD h3<|L h) (fun h3 h=>qD h3<|L h)) (fun h2 h=>qD (decide_eq_false h2)<|a8 h (fun h3 h=>qD h3<|L h) (fun h3 h=>qD h3<|L h))) (fun h1 h=>qD h1<|cb h (fun h2 h=>qD (decide_eq_true h2)<|a8 h (fun h3 h=>qD h3<|L h) (fun h3 h=>qD h3<|L h)) (fun h2 h=>qD (decide_eq_false h2)<|a8 h (fun h3 h=>qD h3<|L h) (fun h3 h=>qD h3<|L h)))
abbrev v8(dp:Nat)(hp:HP)(k0:Key)(c0:Checker)(a0:Int)(r:Int):aW×HP:=(.ret (I r),ad hp k0 (aq c0))
def gx(a0:Int):Option Int:=
 if (a0==2)=true then
  some c0.funcs
 else
  if (a0==3)=true then
   some (c0.p.Ins.length:Int)
  else
   some (c0.p.Outs.length:Int)
theorem tk(hk_k0:k0.dp<dp)(hz:aN dp hp)(c0:Checker)(a0:Int)(r:Int)(h:gx c0 a0=some r):call G Ω0 ⟨dp,true⟩ 163 [(.p k0 0),(I a0)] (ad hp k0 (aq c0))=some (v8 dp hp k0 c0 a0 r):=
 aK ZY (.or (kD<|ao (.l (aq c0))<|.nil) (bf<|.or (kD<|ao (.l (aq c0))<|ao (.i (c0.p.Ins.length:Int))<|.nil) (bf<|bf<|ao (.l (aq c0))<|ao (.i (c0.p.Outs.length:Int))<|.nil))) fun L=>a8 h (fun h1 h=>ai h1<|ai (Nat.ne_of_lt hk_k0)<|ai (aG hp k0 (aq c0))<|L h) (fun h1 h=>ai h1<|a8 h (fun h2 h=>ai h2<|ai (Nat.ne_of_lt hk_k0)<|ai (aG hp k0 (aq c0))<|ai (aL au c0.p.Ins)<|L h) (fun h2 h=>ai h2<|ai (Nat.ne_of_lt hk_k0)<|ai (aG hp k0 (aq c0))<|ai (aL au c0.p.Outs)<|L h))
def oJ:List dM:=(gA 10 47)::[]
end
section
variable (c0:Checker)(a0:Stmt)(dp:Nat)(hp:HP)(k0:Key)
def eH(c0:Checker)(a0:Stmt)(r3:(Bool×Bool×Bool))(u2_1:Bool):Option Bool:=
 some u2_1
abbrev uU(c0:Checker)(a0:Stmt)(r3:(Bool×Bool×Bool))(u2_1:Bool)(x:Bool):St:=⟨[(0,(.p k0 0)),(3,(.p ⟨dp,3⟩ 0)),(5,(I a0.Kind)),(6,(.b r3.1)),(7,(.b r3.2.1)),(8,(.b r3.2.2)),(9,(.b (decide (7≤a0.Kind)))),(10,(.b x))],[(3,(af a0))],ad hp k0 (aq c0)⟩
theorem jI(hk_k0:k0.dp<dp)(hz:aN dp hp)(c0:Checker)(a0:Stmt)(r3:(Bool×Bool×Bool))(u2_1:Bool)(w:List AV)(x:Bool)(h:eH c0 a0 r3 u2_1=some x):lx G Ω0 ⟨dp,true⟩ [0,3,5,6,7,8,9,10] [0,3] oJ ⟨[(47,(.b u2_1)),(46,(W w 0)),(45,(W w 1)),(44,(W w 2)),(43,(W w 3)),(42,(W w 4)),(41,(W w 5)),(40,(W w 6)),(39,(W w 7)),(38,(W w 8)),(37,(W w 9)),(36,(W w 10)),(35,(.b (a0.Expr.Kind==0))),(34,(.b (a0.Expr.Kind==0))),(33,(I a0.Expr.Kind)),(32,(.p ⟨dp,3⟩ 3)),(31,(.p ⟨dp,3⟩ 3)),(0,(.p k0 0)),(3,(.p ⟨dp,3⟩ 0)),(5,(I a0.Kind)),(6,(.b r3.1)),(7,(.b r3.2.1)),(8,(.b r3.2.2)),(9,(.b (decide (7≤a0.Kind))))],[(3,(af a0))],ad hp k0 (aq c0)⟩=some (uU dp hp k0 c0 a0 r3 u2_1 x):=
 kC (.nil) fun L=>L h
def uV:List dM:=(gF 31 3 3)::(gF 32 0 31)::(gQ 33 32)::(gB 34 .eql 33 (kI 0))::(gM 35 34)::⟨some 36,.fa 3 3,some ⟨35,true⟩,false⟩::⟨some 37,.fa 1 36,some ⟨35,true⟩,false⟩::⟨some 38,.ld none 37,some ⟨35,true⟩,false⟩::⟨some 39,.bo .eql false 38 (kI 0),some ⟨35,true⟩,false⟩::(gp 40 (.pk 35 39 (.c (.b false))))::(gM 41 40)::⟨some 42,.fa 3 3,some ⟨41,true⟩,false⟩::⟨some 43,.fa 2 42,some ⟨41,true⟩,false⟩::⟨some 44,.ld none 43,some ⟨41,true⟩,false⟩::⟨some 45,.ln false 44,some ⟨41,true⟩,false⟩::⟨some 46,.bo .eql false 45 (kI 0),some ⟨41,true⟩,false⟩::(gp 47 (.pk 41 46 (.c (.b false))))::oJ
def fV(r3:(Bool×Bool×Bool)):Option Bool:=
 if (a0.Expr.Kind==0)=true then
  if (a0.Expr.N==0)=true then
   (eH c0 a0 r3 ((a0.Expr.Args.length:Int)==0)).bind fun (x7:Bool)=>
   some x7
  else
   (eH c0 a0 r3 false).bind fun (x7:Bool)=>
   some x7
 else
  (eH c0 a0 r3 false).bind fun (x6:Bool)=>
  some x6
abbrev uW(c0:Checker)(a0:Stmt)(r3:(Bool×Bool×Bool))(x:Bool):St:=⟨[(0,(.p k0 0)),(3,(.p ⟨dp,3⟩ 0)),(5,(I a0.Kind)),(6,(.b r3.1)),(7,(.b r3.2.1)),(8,(.b r3.2.2)),(9,(.b (decide (7≤a0.Kind)))),(10,(.b x))],[(3,(af a0))],ad hp k0 (aq c0)⟩
theorem ug(hk_k0:k0.dp<dp)(hz:aN dp hp)(c0:Checker)(a0:Stmt)(r3:(Bool×Bool×Bool))(x:Bool)(h:fV c0 a0 r3=some x):lx G Ω0 ⟨dp,true⟩ [0,3,5,6,7,8,9,10] [0,3] uV ⟨[(0,(.p k0 0)),(3,(.p ⟨dp,3⟩ 0)),(5,(I a0.Kind)),(6,(.b r3.1)),(7,(.b r3.2.1)),(8,(.b r3.2.2)),(9,(.b (decide (7≤a0.Kind))))],[(3,(af a0))],ad hp k0 (aq c0)⟩=some (uW dp hp k0 c0 a0 r3 x):=
 kC (bt<|.or (Jm<|.or (qE<|ao (.i (a0.Expr.Args.length:Int))<|du<|.jb (some 10) 0<|.ex fun (x7:Bool)=>ao (.jn ⟨[(0,(.p k0 0)),(3,(.p ⟨dp,3⟩ 0)),(5,(I a0.Kind)),(6,(.b r3.1)),(7,(.b r3.2.1)),(8,(.b r3.2.2)),(9,(.b (decide (7≤a0.Kind)))),(10,(.b x7))],[(3,(af a0))],ad hp k0 (aq c0)⟩)<|.nil) (Ij<|.jb (some 10) 0<|.ex fun (x7:Bool)=>ao (.jn ⟨[(0,(.p k0 0)),(3,(.p ⟨dp,3⟩ 0)),(5,(I a0.Kind)),(6,(.b r3.1)),(7,(.b r3.2.1)),(8,(.b r3.2.2)),(9,(.b (decide (7≤a0.Kind)))),(10,(.b x7))],[(3,(af a0))],ad hp k0 (aq c0)⟩)<|.nil)) (SP<|.jb (some 10) 0<|.ex fun (x6:Bool)=>ao (.jn ⟨[(0,(.p k0 0)),(3,(.p ⟨dp,3⟩ 0)),(5,(I a0.Kind)),(6,(.b r3.1)),(7,(.b r3.2.1)),(8,(.b r3.2.2)),(9,(.b (decide (7≤a0.Kind)))),(10,(.b x6))],[(3,(af a0))],ad hp k0 (aq c0)⟩)<|.nil)) fun L=>ai (rN dp)<|a8 h (fun h5 h=>Ig h5<|ai (rN dp)<|Ih h5<|a8 h (fun h6 h=>Ig h6<|ai (rN dp)<|ai (g1 h6)<|ai (aL aT a0.Expr.Args)<|Ih h6<|aQ h (jI dp hp k0 hk_k0 hz c0 a0 r3 ((a0.Expr.Args.length:Int)==0) [(.b ((a0.Expr.Args.length:Int)==0)),(I (a0.Expr.Args.length:Int)),(.l 86 (a0.Expr.Args.map aT)),(.p ⟨dp,3⟩ 5),(.p ⟨dp,3⟩ 3),(.b (a0.Expr.N==0)),(.b (a0.Expr.N==0)),(.b (a0.Expr.N==0)),(I a0.Expr.N),(.p ⟨dp,3⟩ 4),(.p ⟨dp,3⟩ 3)]) fun x7 h=>L h) (fun h6 h=>F0 h6<|aQ h (jI dp hp k0 hk_k0 hz c0 a0 r3 false [.sk,.sk,.sk,.sk,.sk,(.b (a0.Expr.N==0)),(.b (a0.Expr.N==0)),(.b (a0.Expr.N==0)),(I a0.Expr.N),(.p ⟨dp,3⟩ 4),(.p ⟨dp,3⟩ 3)]) fun x7 h=>L h)) (fun h5 h=>ai (g1 h5)<|ai (g1 h5)<|ai (g1 h5)<|ai (g1 h5)<|ai h5<|ai gf<|ai gf<|ai gf<|ai gf<|ai gf<|ai ff<|aQ h (jI dp hp k0 hk_k0 hz c0 a0 r3 false [.sk,.sk,.sk,.sk,.sk,(.b false),(.b false),.sk,.sk,.sk,.sk]) fun x6 h=>L h)
def oK:List bQ:=gH (gA 48 81)::[]
def dF(c0:Checker)(a0:Stmt)(r3:(Bool×Bool×Bool))(x5:Bool)(u4_1:Bool)(u5_1:Bool):Option Bool:=
 some u5_1
abbrev uX(c0:Checker)(a0:Stmt)(r3:(Bool×Bool×Bool))(x5:Bool)(u4_1:Bool)(u5_1:Bool)(x:Bool):St:=⟨[(0,(.p k0 0)),(3,(.p ⟨dp,3⟩ 0)),(5,(I a0.Kind)),(6,(.b r3.1)),(7,(.b r3.2.1)),(8,(.b r3.2.2)),(9,(.b (decide (7≤a0.Kind)))),(10,(.b x5)),(48,(.b x))],[(3,(af a0))],ad hp k0 (aq c0)⟩
theorem fG(hk_k0:k0.dp<dp)(hz:aN dp hp)(c0:Checker)(a0:Stmt)(r3:(Bool×Bool×Bool))(x5:Bool)(u4_1:Bool)(u5_1:Bool)(w:List AV)(x:Bool)(h:dF c0 a0 r3 x5 u4_1 u5_1=some x):xv G Ω0 ⟨dp,true⟩ [0,3,5,6,7,8,9,10,48] [0,3] oK ⟨[(81,(.b u5_1)),(80,(W w 0)),(79,(W w 1)),(78,(W w 2)),(77,(W w 3)),(76,(W w 4)),(75,(W w 5)),(74,(W w 6)),(73,(W w 7)),(72,(W w 8)),(71,(W w 9)),(70,(W w 10)),(69,(W w 11)),(68,(W w 12)),(67,(W w 13)),(66,(.b u4_1)),(65,(.b u4_1)),(64,(W w 14)),(63,(W w 15)),(62,(W w 16)),(61,(W w 17)),(60,(W w 18)),(59,(W w 19)),(58,(W w 20)),(57,(W w 21)),(56,(W w 22)),(55,(W w 23)),(54,(W w 24)),(53,(W w 25)),(52,(W w 26)),(51,(W w 27)),(50,(.b r3.1)),(49,(.b r3.1)),(0,(.p k0 0)),(3,(.p ⟨dp,3⟩ 0)),(5,(I a0.Kind)),(6,(.b r3.1)),(7,(.b r3.2.1)),(8,(.b r3.2.2)),(9,(.b (decide (7≤a0.Kind)))),(10,(.b x5))],[(3,(af a0))],ad hp k0 (aq c0)⟩=some (uX dp hp k0 c0 a0 r3 x5 u4_1 u5_1 x):=
 FY (.nil) fun L=>L h
def oL:List bQ:=gL (gM 66 65) [65] []::⟨⟨some 67,.mv 7,some ⟨66,false⟩,false⟩,true,[7],[],false,[],[],[]⟩::⟨⟨some 68,.mv 67,some ⟨66,false⟩,false⟩,true,[67],[],false,[],[],[]⟩::⟨⟨some 69,.fa 2 3,some ⟨68,true⟩,false⟩,true,[3],[],false,[],[],[]⟩::⟨⟨some 70,.ld none 69,some ⟨68,true⟩,false⟩,true,[69],[3],false,[],[],[]⟩::⟨⟨some 71,.bo .lss false 70 (kI 0),some ⟨68,true⟩,false⟩,true,[70],[],false,[],[],[]⟩::⟨⟨some 72,.mv 71,some ⟨68,true⟩,false⟩,true,[71],[],false,[],[],[]⟩::⟨⟨some 73,.fa 2 3,some ⟨72,false⟩,false⟩,true,[3],[],false,[],[],[]⟩::⟨⟨some 74,.ld none 73,some ⟨72,false⟩,false⟩,true,[73],[3],false,[],[],[]⟩::⟨⟨some 75,.mv 0,some ⟨72,false⟩,false⟩,true,[0],[],false,[],[],[]⟩::⟨⟨some 76,.mv 5,some ⟨72,false⟩,false⟩,true,[5],[],false,[],[],[]⟩::⟨⟨some 77,.c3 163 [75,76],some ⟨72,false⟩,false⟩,true,[75,76],[],true,[],[],[]⟩::⟨⟨some 78,.bo .geq false 74 77,some ⟨72,false⟩,false⟩,false,[],[],false,[],[],[]⟩::⟨⟨some 79,.pk 72 (.c (.b true)) 78,some ⟨68,true⟩,false⟩,false,[],[],false,[],[],[]⟩::⟨⟨some 80,.pk 68 79 (.c (.b false)),some ⟨66,false⟩,false⟩,false,[],[],false,[],[],[]⟩::gH (gp 81 (.pk 66 (.c (.b true)) 80))::oK
def dG(r3:(Bool×Bool×Bool))(x5:Bool)(u4_1:Bool):Option Bool:=
 if u4_1=true then
  (dF c0 a0 r3 x5 u4_1 true).bind fun (x10:Bool)=>
  some x10
 else
  if r3.2.1=true then
   if a0.Other<0 then
    (dF c0 a0 r3 x5 u4_1 true).bind fun (x12:Bool)=>
    some x12
   else
    (gx c0 a0.Kind).bind fun (r12:Int)=>
    (dF c0 a0 r3 x5 u4_1 (decide (r12≤a0.Other))).bind fun (x14:Bool)=>
    some x14
  else
   (dF c0 a0 r3 x5 u4_1 false).bind fun (x11:Bool)=>
   some x11
abbrev uY(c0:Checker)(a0:Stmt)(r3:(Bool×Bool×Bool))(x5:Bool)(u4_1:Bool)(x:Bool):St:=⟨[(0,(.p k0 0)),(3,(.p ⟨dp,3⟩ 0)),(5,(I a0.Kind)),(6,(.b r3.1)),(7,(.b r3.2.1)),(8,(.b r3.2.2)),(9,(.b (decide (7≤a0.Kind)))),(10,(.b x5)),(48,(.b x))],[(3,(af a0))],ad hp k0 (aq c0)⟩
theorem jJ(hk_k0:k0.dp<dp)(hz:aN dp hp)(c0:Checker)(a0:Stmt)(r3:(Bool×Bool×Bool))(x5:Bool)(u4_1:Bool)(w:List AV)(x:Bool)(h:dG c0 a0 r3 x5 u4_1=some x):xv G Ω0 ⟨dp,true⟩ [0,3,5,6,7,8,9,10,48] [0,3] oL ⟨[(65,(.b u4_1)),(64,(W w 0)),(63,(W w 1)),(62,(W w 2)),(61,(W w 3)),(60,(W w 4)),(59,(W w 5)),(58,(W w 6)),(57,(W w 7)),(56,(W w 8)),(55,(W w 9)),(54,(W w 10)),(53,(W w 11)),(52,(W w 12)),(51,(W w 13)),(50,(.b r3.1)),(49,(.b r3.1)),(0,(.p k0 0)),(3,(.p ⟨dp,3⟩ 0)),(5,(I a0.Kind)),(6,(.b r3.1)),(7,(.b r3.2.1)),(8,(.b r3.2.2)),(9,(.b (decide (7≤a0.Kind)))),(10,(.b x5))],[(3,(af a0))],ad hp k0 (aq c0)⟩=some (uY dp hp k0 c0 a0 r3 x5 u4_1 x):=
 FY (.or (bf<|bf<|bf<|bt<|.jb (some 48) 0<|.ex fun (x10:Bool)=>ao (.jn ⟨[(0,(.p k0 0)),(3,(.p ⟨dp,3⟩ 0)),(5,(I a0.Kind)),(6,(.b r3.1)),(7,(.b r3.2.1)),(8,(.b r3.2.2)),(9,(.b (decide (7≤a0.Kind)))),(10,(.b x5)),(48,(.b x10))],[(3,(af a0))],ad hp k0 (aq c0)⟩)<|.nil) (du<|.or (qE<|.or (bf<|bf<|bf<|bf<|bf<|bf<|bt<|bt<|bt<|bt<|bf<|.jb (some 48) 0<|.ex fun (x12:Bool)=>ao (.jn ⟨[(0,(.p k0 0)),(3,(.p ⟨dp,3⟩ 0)),(5,(I a0.Kind)),(6,(.b r3.1)),(7,(.b r3.2.1)),(8,(.b r3.2.2)),(9,(.b (decide (7≤a0.Kind)))),(10,(.b x5)),(48,(.b x12))],[(3,(af a0))],ad hp k0 (aq c0)⟩)<|.nil) (Jm<|xI fun r12=>ao (.h (boxes dp [] (ad hp k0 (aq c0))))<|bt<|bt<|bf<|bt<|bt<|bf<|.jb (some 48) 0<|.ex fun (x14:Bool)=>ao (.jn ⟨[(0,(.p k0 0)),(3,(.p ⟨dp,3⟩ 0)),(5,(I a0.Kind)),(6,(.b r3.1)),(7,(.b r3.2.1)),(8,(.b r3.2.2)),(9,(.b (decide (7≤a0.Kind)))),(10,(.b x5)),(48,(.b x14))],[(3,(af a0))],ad hp k0 (aq c0)⟩)<|.nil)) (bf<|bf<|bf<|bf<|bf<|bt<|bf<|bf<|.jb (some 48) 0<|.ex fun (x11:Bool)=>ao (.jn ⟨[(0,(.p k0 0)),(3,(.p ⟨dp,3⟩ 0)),(5,(I a0.Kind)),(6,(.b r3.1)),(7,(.b r3.2.1)),(8,(.b r3.2.2)),(9,(.b (decide (7≤a0.Kind)))),(10,(.b x5)),(48,(.b x11))],[(3,(af a0))],ad hp k0 (aq c0)⟩)<|.nil))) fun L=>ai tt<|a8 h (fun h9 h=>ai (g0 h9)<|ai (g0 h9)<|ai (g0 h9)<|ai h9<|aQ h (fG dp hp k0 hk_k0 hz c0 a0 r3 x5 u4_1 true [.sk,.sk,.sk,.sk,.sk,.sk,.sk,.sk,.sk,.sk,.sk,.sk,.sk,.sk,(W w 0),(W w 1),(W w 2),(W w 3),(W w 4),(W w 5),(W w 6),(W w 7),(W w 8),(W w 9),(W w 10),(W w 11),(W w 12),(W w 13)]) fun x10 h=>L h) (fun h9 h=>ai (g0 h9)<|ai tt<|ai (g0 h9)<|ai tt<|a8 h (fun h10 h=>ai (g1 h10)<|ai tt<|ai (g1 h10)<|ai (rN dp)<|ai tt<|ai (g1 h10)<|ai tt<|ai (g1 h10)<|ai tt<|cb h (fun h11 h=>ai (g0 (decide_eq_true h11))<|ai (g0 (decide_eq_true h11))<|ai (g0 (decide_eq_true h11))<|ai (g0 (decide_eq_true h11))<|ai (g0 (decide_eq_true h11))<|ai (g0 (decide_eq_true h11))<|ai (g1 h10)<|ai (decide_eq_true h11)<|ai (g0 h9)<|ai h10<|ai h9<|aQ h (fG dp hp k0 hk_k0 hz c0 a0 r3 x5 u4_1 true [(.b true),(.b true),.sk,.sk,.sk,.sk,.sk,.sk,(.b (decide (a0.Other<0))),(.b (decide (a0.Other<0))),(I a0.Other),(.p ⟨dp,3⟩ 2),(.b r3.2.1),(.b r3.2.1),(W w 0),(W w 1),(W w 2),(W w 3),(W w 4),(W w 5),(W w 6),(W w 7),(W w 8),(W w 9),(W w 10),(W w 11),(W w 12),(W w 13)]) fun x12 h=>L h) (fun h11 h=>ai (g0 (decide_eq_false h11))<|ai tt<|ai (g0 (decide_eq_false h11))<|ai (rN dp)<|ai tt<|ai (g0 (decide_eq_false h11))<|ai tt<|ai (g0 (decide_eq_false h11))<|ai tt<|ai (g0 (decide_eq_false h11))<|ai tt<|aP h fun r12 ek13 h=>have ek13:=cO hk_k0 (tk (dp+1) (boxes dp [] (ad hp k0 (aq c0))) k0 (Nat.lt_succ_of_lt hk_k0) (az (ab hk_k0 (hz))) c0 a0.Kind _ ek13);ai ek13<|ai tt<|ai (g0 (decide_eq_false h11))<|ai (g1 h10)<|ai (decide_eq_false h11)<|ai (g0 h9)<|ai h10<|ai h9<|aQ h (fG dp hp k0 hk_k0 hz c0 a0 r3 x5 u4_1 (decide (r12≤a0.Other)) [(.b (decide (r12≤a0.Other))),(.b (decide (r12≤a0.Other))),(.b (decide (r12≤a0.Other))),(I r12),(I a0.Kind),(.p k0 0),(I a0.Other),(.p ⟨dp,3⟩ 2),(.b (decide (a0.Other<0))),(.b (decide (a0.Other<0))),(I a0.Other),(.p ⟨dp,3⟩ 2),(.b r3.2.1),(.b r3.2.1),(W w 0),(W w 1),(W w 2),(W w 3),(W w 4),(W w 5),(W w 6),(W w 7),(W w 8),(W w 9),(W w 10),(W w 11),(W w 12),(W w 13)]) fun x14 h=>L h)) (fun h10 h=>ai (g1 h10)<|ai (g1 h10)<|ai (g1 h10)<|ai (g1 h10)<|ai (g1 h10)<|ai (g0 h9)<|ai h10<|ai h9<|aQ h (fG dp hp k0 hk_k0 hz c0 a0 r3 x5 u4_1 false [(.b false),.sk,.sk,.sk,.sk,.sk,.sk,.sk,.sk,.sk,.sk,.sk,(.b r3.2.1),(.b r3.2.1),(W w 0),(W w 1),(W w 2),(W w 3),(W w 4),(W w 5),(W w 6),(W w 7),(W w 8),(W w 9),(W w 10),(W w 11),(W w 12),(W w 13)]) fun x11 h=>L h))
def uZ:List bQ:=gL (gM 49 6) [6] []::gL (gM 50 49) [49] []::⟨⟨some 51,.fa 1 3,some ⟨50,true⟩,false⟩,true,[3],[],false,[],[],[]⟩::⟨⟨some 52,.ld none 51,some ⟨50,true⟩,false⟩,true,[51],[3],false,[],[],[]⟩::⟨⟨some 53,.bo .lss false 52 (kI 0),some ⟨50,true⟩,false⟩,true,[52],[],false,[],[],[]⟩::⟨⟨some 54,.mv 53,some ⟨50,true⟩,false⟩,true,[53],[],false,[],[],[]⟩::⟨⟨some 55,.fa 1 3,some ⟨54,false⟩,false⟩,true,[3],[],false,[],[],[]⟩::⟨⟨some 56,.ld none 55,some ⟨54,false⟩,false⟩,true,[55],[3],false,[],[],[]⟩::⟨⟨some 57,.mv 0,some ⟨54,false⟩,false⟩,true,[0],[],false,[],[],[]⟩::⟨⟨some 58,.nc 57,some ⟨54,false⟩,false⟩,true,[57],[],false,[],[],[]⟩::⟨⟨some 59,.fa 0 58,some ⟨54,false⟩,false⟩,true,[58],[],false,[],[],[]⟩::⟨⟨some 60,.fa 5 59,some ⟨54,false⟩,false⟩,true,[59],[],false,[],[],[]⟩::⟨⟨some 61,.ld none 60,some ⟨54,false⟩,false⟩,true,[60],[],true,[],[],[]⟩::⟨⟨some 62,.ln false 61,some ⟨54,false⟩,false⟩,true,[61],[],true,[],[],[]⟩::⟨⟨some 63,.bo .geq false 56 62,some ⟨54,false⟩,false⟩,true,[56,62],[],false,[],[],[]⟩::⟨⟨some 64,.pk 54 (.c (.b true)) 63,some ⟨50,true⟩,false⟩,true,[54,63],[],false,[],[],[]⟩::gL (gp 65 (.pk 50 64 (.c (.b false)))) [50,64] []::oL
def fW(r3:(Bool×Bool×Bool))(x5:Bool):Option Bool:=
 if r3.1=true then
  if a0.Var<0 then
   (dG c0 a0 r3 x5 true).bind fun (x9:Bool)=>
   some x9
  else
   (dG c0 a0 r3 x5 (decide ((c0.p.Vars.length:Int)≤a0.Var))).bind fun (x9:Bool)=>
   some x9
 else
  (dG c0 a0 r3 x5 false).bind fun (x8:Bool)=>
  some x8
abbrev u0(c0:Checker)(a0:Stmt)(r3:(Bool×Bool×Bool))(x5:Bool)(x:Bool):St:=⟨[(0,(.p k0 0)),(3,(.p ⟨dp,3⟩ 0)),(5,(I a0.Kind)),(6,(.b r3.1)),(7,(.b r3.2.1)),(8,(.b r3.2.2)),(9,(.b (decide (7≤a0.Kind)))),(10,(.b x5)),(48,(.b x))],[(3,(af a0))],ad hp k0 (aq c0)⟩
theorem uh(hk_k0:k0.dp<dp)(hz:aN dp hp)(c0:Checker)(a0:Stmt)(r3:(Bool×Bool×Bool))(x5:Bool)(x:Bool)(h:fW c0 a0 r3 x5=some x):xv G Ω0 ⟨dp,true⟩ [0,3,5,6,7,8,9,10,48] [0,3] uZ ⟨[(0,(.p k0 0)),(3,(.p ⟨dp,3⟩ 0)),(5,(I a0.Kind)),(6,(.b r3.1)),(7,(.b r3.2.1)),(8,(.b r3.2.2)),(9,(.b (decide (7≤a0.Kind)))),(10,(.b x5))],[(3,(af a0))],ad hp k0 (aq c0)⟩=some (u0 dp hp k0 c0 a0 r3 x5 x):=
 FY (.or (qE<|.or (bf<|bf<|bf<|bf<|bf<|bf<|bf<|bf<|bf<|bt<|bt<|bt<|.jb (some 66) 16<|.ex fun (x9:Bool)=>ao (.jn ⟨[(0,(.p k0 0)),(3,(.p ⟨dp,3⟩ 0)),(5,(I a0.Kind)),(6,(.b r3.1)),(7,(.b r3.2.1)),(8,(.b r3.2.2)),(9,(.b (decide (7≤a0.Kind)))),(10,(.b x5)),(48,(.b x9))],[(3,(af a0))],ad hp k0 (aq c0)⟩)<|.nil) (bt<|bt<|bt<|bt<|bt<|bt<|bt<|bt<|bf<|ao (.l (aq c0))<|bt<|ao (.i (c0.p.Vars.length:Int))<|bt<|bt<|bf<|bt<|.jb (some 66) 16<|.ex fun (x9:Bool)=>ao (.jn ⟨[(0,(.p k0 0)),(3,(.p ⟨dp,3⟩ 0)),(5,(I a0.Kind)),(6,(.b r3.1)),(7,(.b r3.2.1)),(8,(.b r3.2.2)),(9,(.b (decide (7≤a0.Kind)))),(10,(.b x5)),(48,(.b x9))],[(3,(af a0))],ad hp k0 (aq c0)⟩)<|.nil)) (Ij<|.jb (some 66) 16<|.ex fun (x8:Bool)=>ao (.jn ⟨[(0,(.p k0 0)),(3,(.p ⟨dp,3⟩ 0)),(5,(I a0.Kind)),(6,(.b r3.1)),(7,(.b r3.2.1)),(8,(.b r3.2.2)),(9,(.b (decide (7≤a0.Kind)))),(10,(.b x5)),(48,(.b x8))],[(3,(af a0))],ad hp k0 (aq c0)⟩)<|.nil)) fun L=>cF<|a8 h (fun h7 h=>ai (g1 h7)<|ai tt<|ai (g1 h7)<|ai (rN dp)<|ai tt<|ai (g1 h7)<|ai tt<|ai (g1 h7)<|ai tt<|cb h (fun h8 h=>ai (g0 (decide_eq_true h8))<|ai (g0 (decide_eq_true h8))<|ai (g0 (decide_eq_true h8))<|ai (g0 (decide_eq_true h8))<|ai (g0 (decide_eq_true h8))<|ai (g0 (decide_eq_true h8))<|ai (g0 (decide_eq_true h8))<|ai (g0 (decide_eq_true h8))<|ai (g0 (decide_eq_true h8))<|ai (g1 h7)<|ai (decide_eq_true h8)<|ai tt<|ai h7<|ai tt<|aQ h (jJ dp hp k0 hk_k0 hz c0 a0 r3 x5 true [(.b true),.sk,.sk,.sk,.sk,.sk,.sk,.sk,.sk,.sk,(.b (decide (a0.Var<0))),(.b (decide (a0.Var<0))),(I a0.Var),(.p ⟨dp,3⟩ 1)]) fun x9 h=>L h) (fun h8 h=>ai (g0 (decide_eq_false h8))<|ai tt<|ai (g0 (decide_eq_false h8))<|ai (rN dp)<|ai tt<|ai (g0 (decide_eq_false h8))<|ai tt<|ai (g0 (decide_eq_false h8))<|ai tt<|ai (g0 (decide_eq_false h8))<|ai tt<|ai (g0 (decide_eq_false h8))<|ai tt<|ai (g0 (decide_eq_false h8))<|ai (Nat.ne_of_lt hk_k0)<|ai (aG hp k0 (aq c0))<|ai tt<|ai (g0 (decide_eq_false h8))<|ai (aL bz c0.p.Vars)<|ai tt<|ai (g0 (decide_eq_false h8))<|ai tt<|ai (g1 h7)<|ai (decide_eq_false h8)<|ai tt<|ai h7<|ai tt<|aQ h (jJ dp hp k0 hk_k0 hz c0 a0 r3 x5 (decide ((c0.p.Vars.length:Int)≤a0.Var)) [(.b (decide ((c0.p.Vars.length:Int)≤a0.Var))),(.b (decide ((c0.p.Vars.length:Int)≤a0.Var))),(I (c0.p.Vars.length:Int)),(.l 51 (c0.p.Vars.map bz)),(.p k0 5),(.p k0 0),(.p k0 0),(.p k0 0),(I a0.Var),(.p ⟨dp,3⟩ 1),(.b (decide (a0.Var<0))),(.b (decide (a0.Var<0))),(I a0.Var),(.p ⟨dp,3⟩ 1)]) fun x9 h=>L h)) (fun h7 h=>ai (g1 h7)<|ai (g1 h7)<|ai (g1 h7)<|ai (g1 h7)<|ai (g1 h7)<|ai h7<|ai tt<|aQ h (jJ dp hp k0 hk_k0 hz c0 a0 r3 x5 false [.sk,.sk,.sk,.sk,.sk,.sk,.sk,.sk,.sk,.sk,.sk,.sk,.sk,.sk]) fun x8 h=>L h)
def nF:List dM:=(gA 82 136)::[]
def ek(c0:Checker)(a0:Stmt)(r3:(Bool×Bool×Bool))(x5:Bool)(x7:Bool)(u7_1:Bool)(u8_1:Bool)(u9_1:Bool)(u10_1:Bool)(u11_1:Bool):Option Bool:=
 some u11_1
abbrev ui(c0:Checker)(a0:Stmt)(r3:(Bool×Bool×Bool))(x5:Bool)(x7:Bool)(u7_1:Bool)(u8_1:Bool)(u9_1:Bool)(u10_1:Bool)(u11_1:Bool)(x:Bool):St:=⟨[(0,(.p k0 0)),(3,(.p ⟨dp,3⟩ 0)),(5,(I a0.Kind)),(8,(.b r3.2.2)),(82,(.b x))],[(3,(af a0))],ad hp k0 (aq c0)⟩
theorem iY(hk_k0:k0.dp<dp)(hz:aN dp hp)(c0:Checker)(a0:Stmt)(r3:(Bool×Bool×Bool))(x5:Bool)(x7:Bool)(u7_1:Bool)(u8_1:Bool)(u9_1:Bool)(u10_1:Bool)(u11_1:Bool)(w:List AV)(x:Bool)(h:ek c0 a0 r3 x5 x7 u7_1 u8_1 u9_1 u10_1 u11_1=some x):lx G Ω0 ⟨dp,true⟩ [0,3,5,8,82] [0,3] nF ⟨[(136,(.b u11_1)),(135,(W w 0)),(134,(W w 1)),(133,(W w 2)),(132,(W w 3)),(131,(W w 4)),(130,(W w 5)),(129,(W w 6)),(128,(W w 7)),(127,(.b u10_1)),(126,(.b u10_1)),(125,(W w 8)),(124,(W w 9)),(123,(W w 10)),(122,(W w 11)),(121,(W w 12)),(120,(W w 13)),(119,(W w 14)),(118,(W w 15)),(117,(.b u9_1)),(116,(.b u9_1)),(115,(W w 16)),(114,(W w 17)),(113,(W w 18)),(112,(W w 19)),(111,(W w 20)),(110,(W w 21)),(109,(W w 22)),(108,(W w 23)),(107,(.b u8_1)),(106,(.b u8_1)),(105,(W w 24)),(104,(W w 25)),(103,(W w 26)),(102,(W w 27)),(101,(W w 28)),(100,(W w 29)),(99,(.b u7_1)),(98,(.b u7_1)),(97,(W w 30)),(96,(W w 31)),(95,(W w 32)),(94,(W w 33)),(93,(W w 34)),(92,(W w 35)),(91,(W w 36)),(90,(W w 37)),(89,(W w 38)),(88,(W w 39)),(87,(W w 40)),(86,(W w 41)),(85,(.b (!r3.1))),(84,(.b (!r3.1))),(83,(.b r3.1)),(0,(.p k0 0)),(3,(.p ⟨dp,3⟩ 0)),(5,(I a0.Kind)),(6,(.b r3.1)),(7,(.b r3.2.1)),(8,(.b r3.2.2)),(9,(.b (decide (7≤a0.Kind)))),(10,(.b x5)),(48,(.b x7))],[(3,(af a0))],ad hp k0 (aq c0)⟩=some (ui dp hp k0 c0 a0 r3 x5 x7 u7_1 u8_1 u9_1 u10_1 u11_1 x):=
 kC (.nil) fun L=>L h
def nG:List dM:=(gM 127 126)::⟨some 128,.mv 5,some ⟨127,false⟩,false⟩::⟨some 129,.bo .neq false 128 (kI 7),some ⟨127,false⟩,false⟩::⟨some 130,.mv 129,some ⟨127,false⟩,false⟩::⟨some 131,.fa 8 3,some ⟨130,true⟩,false⟩::⟨some 132,.ld none 131,some ⟨130,true⟩,false⟩::⟨some 133,.ln false 132,some ⟨130,true⟩,false⟩::⟨some 134,.bo .gtr false 133 (kI 0),some ⟨130,true⟩,false⟩::⟨some 135,.pk 130 134 (.c (.b false)),some ⟨127,false⟩,false⟩::(gp 136 (.pk 127 (.c (.b true)) 135))::nF
def dz(r3:(Bool×Bool×Bool))(x5:Bool)(x7:Bool)(u7_1:Bool)(u8_1:Bool)(u9_1:Bool)(u10_1:Bool):Option Bool:=
 if u10_1=true then
  (ek c0 a0 r3 x5 x7 u7_1 u8_1 u9_1 u10_1 true).bind fun (x20:Bool)=>
  some x20
 else
  if (a0.Kind !=7)=true then
   (ek c0 a0 r3 x5 x7 u7_1 u8_1 u9_1 u10_1 (decide (0<(a0.Else.length:Int)))).bind fun (x21:Bool)=>
   some x21
  else
   (ek c0 a0 r3 x5 x7 u7_1 u8_1 u9_1 u10_1 false).bind fun (x21:Bool)=>
   some x21
abbrev uj(c0:Checker)(a0:Stmt)(r3:(Bool×Bool×Bool))(x5:Bool)(x7:Bool)(u7_1:Bool)(u8_1:Bool)(u9_1:Bool)(u10_1:Bool)(x:Bool):St:=⟨[(0,(.p k0 0)),(3,(.p ⟨dp,3⟩ 0)),(5,(I a0.Kind)),(8,(.b r3.2.2)),(82,(.b x))],[(3,(af a0))],ad hp k0 (aq c0)⟩
theorem iZ(hk_k0:k0.dp<dp)(hz:aN dp hp)(c0:Checker)(a0:Stmt)(r3:(Bool×Bool×Bool))(x5:Bool)(x7:Bool)(u7_1:Bool)(u8_1:Bool)(u9_1:Bool)(u10_1:Bool)(w:List AV)(x:Bool)(h:dz c0 a0 r3 x5 x7 u7_1 u8_1 u9_1 u10_1=some x):lx G Ω0 ⟨dp,true⟩ [0,3,5,8,82] [0,3] nG ⟨[(126,(.b u10_1)),(125,(W w 0)),(124,(W w 1)),(123,(W w 2)),(122,(W w 3)),(121,(W w 4)),(120,(W w 5)),(119,(W w 6)),(118,(W w 7)),(117,(.b u9_1)),(116,(.b u9_1)),(115,(W w 8)),(114,(W w 9)),(113,(W w 10)),(112,(W w 11)),(111,(W w 12)),(110,(W w 13)),(109,(W w 14)),(108,(W w 15)),(107,(.b u8_1)),(106,(.b u8_1)),(105,(W w 16)),(104,(W w 17)),(103,(W w 18)),(102,(W w 19)),(101,(W w 20)),(100,(W w 21)),(99,(.b u7_1)),(98,(.b u7_1)),(97,(W w 22)),(96,(W w 23)),(95,(W w 24)),(94,(W w 25)),(93,(W w 26)),(92,(W w 27)),(91,(W w 28)),(90,(W w 29)),(89,(W w 30)),(88,(W w 31)),(87,(W w 32)),(86,(W w 33)),(85,(.b (!r3.1))),(84,(.b (!r3.1))),(83,(.b r3.1)),(0,(.p k0 0)),(3,(.p ⟨dp,3⟩ 0)),(5,(I a0.Kind)),(6,(.b r3.1)),(7,(.b r3.2.1)),(8,(.b r3.2.2)),(9,(.b (decide (7≤a0.Kind)))),(10,(.b x5)),(48,(.b x7))],[(3,(af a0))],ad hp k0 (aq c0)⟩=some (uj dp hp k0 c0 a0 r3 x5 x7 u7_1 u8_1 u9_1 u10_1 x):=
 kC (.or (EI<|.jb (some 82) 0<|.ex fun (x20:Bool)=>ao (.jn ⟨[(0,(.p k0 0)),(3,(.p ⟨dp,3⟩ 0)),(5,(I a0.Kind)),(8,(.b r3.2.2)),(82,(.b x20))],[(3,(af a0))],ad hp k0 (aq c0)⟩)<|.nil) (dE<|.or (tV<|ao (.i (a0.Else.length:Int))<|Dy<|.jb (some 82) 0<|.ex fun (x21:Bool)=>ao (.jn ⟨[(0,(.p k0 0)),(3,(.p ⟨dp,3⟩ 0)),(5,(I a0.Kind)),(8,(.b r3.2.2)),(82,(.b x21))],[(3,(af a0))],ad hp k0 (aq c0)⟩)<|.nil) (MP<|.jb (some 82) 0<|.ex fun (x21:Bool)=>ao (.jn ⟨[(0,(.p k0 0)),(3,(.p ⟨dp,3⟩ 0)),(5,(I a0.Kind)),(8,(.b r3.2.2)),(82,(.b x21))],[(3,(af a0))],ad hp k0 (aq c0)⟩)<|.nil))) fun L=>a8 h (fun h19 h=>EH h19<|aQ h (iY dp hp k0 hk_k0 hz c0 a0 r3 x5 x7 u7_1 u8_1 u9_1 u10_1 true [.sk,.sk,.sk,.sk,.sk,.sk,.sk,.sk,(W w 0),(W w 1),(W w 2),(W w 3),(W w 4),(W w 5),(W w 6),(W w 7),(W w 8),(W w 9),(W w 10),(W w 11),(W w 12),(W w 13),(W w 14),(W w 15),(W w 16),(W w 17),(W w 18),(W w 19),(W w 20),(W w 21),(W w 22),(W w 23),(W w 24),(W w 25),(W w 26),(W w 27),(W w 28),(W w 29),(W w 30),(W w 31),(W w 32),(W w 33)]) fun x20 h=>L h) (fun h19 h=>EG h19<|a8 h (fun h20 h=>yY h20<|ai (rN dp)<|ai (g1 h20)<|ai (aL aH a0.Else)<|ai (g1 h20)<|ai (g0 h19)<|ai h20<|ai h19<|aQ h (iY dp hp k0 hk_k0 hz c0 a0 r3 x5 x7 u7_1 u8_1 u9_1 u10_1 (decide (0<(a0.Else.length:Int))) [(.b (decide (0<(a0.Else.length:Int)))),(.b (decide (0<(a0.Else.length:Int)))),(I (a0.Else.length:Int)),(.l 88 (a0.Else.map aH)),(.p ⟨dp,3⟩ 8),(.b (a0.Kind !=7)),(.b (a0.Kind !=7)),(I a0.Kind),(W w 0),(W w 1),(W w 2),(W w 3),(W w 4),(W w 5),(W w 6),(W w 7),(W w 8),(W w 9),(W w 10),(W w 11),(W w 12),(W w 13),(W w 14),(W w 15),(W w 16),(W w 17),(W w 18),(W w 19),(W w 20),(W w 21),(W w 22),(W w 23),(W w 24),(W w 25),(W w 26),(W w 27),(W w 28),(W w 29),(W w 30),(W w 31),(W w 32),(W w 33)]) fun x21 h=>L h) (fun h20 h=>Jj h20<|ai (g0 h19)<|ai h20<|ai h19<|aQ h (iY dp hp k0 hk_k0 hz c0 a0 r3 x5 x7 u7_1 u8_1 u9_1 u10_1 false [(.b false),.sk,.sk,.sk,.sk,(.b (a0.Kind !=7)),(.b (a0.Kind !=7)),(I a0.Kind),(W w 0),(W w 1),(W w 2),(W w 3),(W w 4),(W w 5),(W w 6),(W w 7),(W w 8),(W w 9),(W w 10),(W w 11),(W w 12),(W w 13),(W w 14),(W w 15),(W w 16),(W w 17),(W w 18),(W w 19),(W w 20),(W w 21),(W w 22),(W w 23),(W w 24),(W w 25),(W w 26),(W w 27),(W w 28),(W w 29),(W w 30),(W w 31),(W w 32),(W w 33)]) fun x21 h=>L h))
def oM:List dM:=(gM 117 116)::⟨some 118,.mv 9,some ⟨117,false⟩,false⟩::⟨some 119,.no 118,some ⟨117,false⟩,false⟩::⟨some 120,.mv 119,some ⟨117,false⟩,false⟩::⟨some 121,.fa 7 3,some ⟨120,true⟩,false⟩::⟨some 122,.ld none 121,some ⟨120,true⟩,false⟩::⟨some 123,.ln false 122,some ⟨120,true⟩,false⟩::⟨some 124,.bo .gtr false 123 (kI 0),some ⟨120,true⟩,false⟩::⟨some 125,.pk 120 124 (.c (.b false)),some ⟨117,false⟩,false⟩::(gp 126 (.pk 117 (.c (.b true)) 125))::nG
def dH(r3:(Bool×Bool×Bool))(x5:Bool)(x7:Bool)(u7_1:Bool)(u8_1:Bool)(u9_1:Bool):Option Bool:=
 if u9_1=true then
  (dz c0 a0 r3 x5 x7 u7_1 u8_1 u9_1 true).bind fun (x18:Bool)=>
  some x18
 else
  if 7≤a0.Kind then
   (dz c0 a0 r3 x5 x7 u7_1 u8_1 u9_1 false).bind fun (x19:Bool)=>
   some x19
  else
   (dz c0 a0 r3 x5 x7 u7_1 u8_1 u9_1 (decide (0<(a0.Then.length:Int)))).bind fun (x19:Bool)=>
   some x19
abbrev u4(c0:Checker)(a0:Stmt)(r3:(Bool×Bool×Bool))(x5:Bool)(x7:Bool)(u7_1:Bool)(u8_1:Bool)(u9_1:Bool)(x:Bool):St:=⟨[(0,(.p k0 0)),(3,(.p ⟨dp,3⟩ 0)),(5,(I a0.Kind)),(8,(.b r3.2.2)),(82,(.b x))],[(3,(af a0))],ad hp k0 (aq c0)⟩
theorem jK(hk_k0:k0.dp<dp)(hz:aN dp hp)(c0:Checker)(a0:Stmt)(r3:(Bool×Bool×Bool))(x5:Bool)(x7:Bool)(u7_1:Bool)(u8_1:Bool)(u9_1:Bool)(w:List AV)(x:Bool)(h:dH c0 a0 r3 x5 x7 u7_1 u8_1 u9_1=some x):lx G Ω0 ⟨dp,true⟩ [0,3,5,8,82] [0,3] oM ⟨[(116,(.b u9_1)),(115,(W w 0)),(114,(W w 1)),(113,(W w 2)),(112,(W w 3)),(111,(W w 4)),(110,(W w 5)),(109,(W w 6)),(108,(W w 7)),(107,(.b u8_1)),(106,(.b u8_1)),(105,(W w 8)),(104,(W w 9)),(103,(W w 10)),(102,(W w 11)),(101,(W w 12)),(100,(W w 13)),(99,(.b u7_1)),(98,(.b u7_1)),(97,(W w 14)),(96,(W w 15)),(95,(W w 16)),(94,(W w 17)),(93,(W w 18)),(92,(W w 19)),(91,(W w 20)),(90,(W w 21)),(89,(W w 22)),(88,(W w 23)),(87,(W w 24)),(86,(W w 25)),(85,(.b (!r3.1))),(84,(.b (!r3.1))),(83,(.b r3.1)),(0,(.p k0 0)),(3,(.p ⟨dp,3⟩ 0)),(5,(I a0.Kind)),(6,(.b r3.1)),(7,(.b r3.2.1)),(8,(.b r3.2.2)),(9,(.b (decide (7≤a0.Kind)))),(10,(.b x5)),(48,(.b x7))],[(3,(af a0))],ad hp k0 (aq c0)⟩=some (u4 dp hp k0 c0 a0 r3 x5 x7 u7_1 u8_1 u9_1 x):=
 kC (.or (EI<|.jb (some 127) 10<|.ex fun (x18:Bool)=>ao (.jn ⟨[(0,(.p k0 0)),(3,(.p ⟨dp,3⟩ 0)),(5,(I a0.Kind)),(8,(.b r3.2.2)),(82,(.b x18))],[(3,(af a0))],ad hp k0 (aq c0)⟩)<|.nil) (dE<|.or (MP<|.jb (some 127) 10<|.ex fun (x19:Bool)=>ao (.jn ⟨[(0,(.p k0 0)),(3,(.p ⟨dp,3⟩ 0)),(5,(I a0.Kind)),(8,(.b r3.2.2)),(82,(.b x19))],[(3,(af a0))],ad hp k0 (aq c0)⟩)<|.nil) (tV<|ao (.i (a0.Then.length:Int))<|Dy<|.jb (some 127) 10<|.ex fun (x19:Bool)=>ao (.jn ⟨[(0,(.p k0 0)),(3,(.p ⟨dp,3⟩ 0)),(5,(I a0.Kind)),(8,(.b r3.2.2)),(82,(.b x19))],[(3,(af a0))],ad hp k0 (aq c0)⟩)<|.nil))) fun L=>a8 h (fun h17 h=>EH h17<|aQ h (iZ dp hp k0 hk_k0 hz c0 a0 r3 x5 x7 u7_1 u8_1 u9_1 true [.sk,.sk,.sk,.sk,.sk,.sk,.sk,.sk,(W w 0),(W w 1),(W w 2),(W w 3),(W w 4),(W w 5),(W w 6),(W w 7),(W w 8),(W w 9),(W w 10),(W w 11),(W w 12),(W w 13),(W w 14),(W w 15),(W w 16),(W w 17),(W w 18),(W w 19),(W w 20),(W w 21),(W w 22),(W w 23),(W w 24),(W w 25)]) fun x18 h=>L h) (fun h17 h=>EG h17<|cb h (fun h18 h=>Jj (congrArg not (decide_eq_true h18))<|ai (g0 h17)<|ai (congrArg not (decide_eq_true h18))<|ai h17<|aQ h (iZ dp hp k0 hk_k0 hz c0 a0 r3 x5 x7 u7_1 u8_1 u9_1 false [(.b false),.sk,.sk,.sk,.sk,(.b (!(decide (7≤a0.Kind)))),(.b (!(decide (7≤a0.Kind)))),(.b (decide (7≤a0.Kind))),(W w 0),(W w 1),(W w 2),(W w 3),(W w 4),(W w 5),(W w 6),(W w 7),(W w 8),(W w 9),(W w 10),(W w 11),(W w 12),(W w 13),(W w 14),(W w 15),(W w 16),(W w 17),(W w 18),(W w 19),(W w 20),(W w 21),(W w 22),(W w 23),(W w 24),(W w 25)]) fun x19 h=>L h) (fun h18 h=>yY (congrArg not (decide_eq_false h18))<|ai (rN dp)<|ai (g1 (congrArg not (decide_eq_false h18)))<|ai (aL aH a0.Then)<|ai (g1 (congrArg not (decide_eq_false h18)))<|ai (g0 h17)<|ai (congrArg not (decide_eq_false h18))<|ai h17<|aQ h (iZ dp hp k0 hk_k0 hz c0 a0 r3 x5 x7 u7_1 u8_1 u9_1 (decide (0<(a0.Then.length:Int))) [(.b (decide (0<(a0.Then.length:Int)))),(.b (decide (0<(a0.Then.length:Int)))),(I (a0.Then.length:Int)),(.l 88 (a0.Then.map aH)),(.p ⟨dp,3⟩ 7),(.b (!(decide (7≤a0.Kind)))),(.b (!(decide (7≤a0.Kind)))),(.b (decide (7≤a0.Kind))),(W w 0),(W w 1),(W w 2),(W w 3),(W w 4),(W w 5),(W w 6),(W w 7),(W w 8),(W w 9),(W w 10),(W w 11),(W w 12),(W w 13),(W w 14),(W w 15),(W w 16),(W w 17),(W w 18),(W w 19),(W w 20),(W w 21),(W w 22),(W w 23),(W w 24),(W w 25)]) fun x19 h=>L h))
def oO:List dM:=(gM 107 106)::⟨some 108,.mv 5,some ⟨107,false⟩,false⟩::⟨some 109,.bo .neq false 108 (kI 2),some ⟨107,false⟩,false⟩::⟨some 110,.mv 109,some ⟨107,false⟩,false⟩::⟨some 111,.fa 6 3,some ⟨110,true⟩,false⟩::⟨some 112,.ld none 111,some ⟨110,true⟩,false⟩::⟨some 113,.ln false 112,some ⟨110,true⟩,false⟩::⟨some 114,.bo .gtr false 113 (kI 0),some ⟨110,true⟩,false⟩::⟨some 115,.pk 110 114 (.c (.b false)),some ⟨107,false⟩,false⟩::(gp 116 (.pk 107 (.c (.b true)) 115))::oM
def dI(r3:(Bool×Bool×Bool))(x5:Bool)(x7:Bool)(u7_1:Bool)(u8_1:Bool):Option Bool:=
 if u8_1=true then
  (dH c0 a0 r3 x5 x7 u7_1 u8_1 true).bind fun (x16:Bool)=>
  some x16
 else
  if (a0.Kind !=2)=true then
   (dH c0 a0 r3 x5 x7 u7_1 u8_1 (decide (0<(a0.Args.length:Int)))).bind fun (x17:Bool)=>
   some x17
  else
   (dH c0 a0 r3 x5 x7 u7_1 u8_1 false).bind fun (x17:Bool)=>
   some x17
abbrev u5(c0:Checker)(a0:Stmt)(r3:(Bool×Bool×Bool))(x5:Bool)(x7:Bool)(u7_1:Bool)(u8_1:Bool)(x:Bool):St:=⟨[(0,(.p k0 0)),(3,(.p ⟨dp,3⟩ 0)),(5,(I a0.Kind)),(8,(.b r3.2.2)),(82,(.b x))],[(3,(af a0))],ad hp k0 (aq c0)⟩
theorem jL(hk_k0:k0.dp<dp)(hz:aN dp hp)(c0:Checker)(a0:Stmt)(r3:(Bool×Bool×Bool))(x5:Bool)(x7:Bool)(u7_1:Bool)(u8_1:Bool)(w:List AV)(x:Bool)(h:dI c0 a0 r3 x5 x7 u7_1 u8_1=some x):lx G Ω0 ⟨dp,true⟩ [0,3,5,8,82] [0,3] oO ⟨[(106,(.b u8_1)),(105,(W w 0)),(104,(W w 1)),(103,(W w 2)),(102,(W w 3)),(101,(W w 4)),(100,(W w 5)),(99,(.b u7_1)),(98,(.b u7_1)),(97,(W w 6)),(96,(W w 7)),(95,(W w 8)),(94,(W w 9)),(93,(W w 10)),(92,(W w 11)),(91,(W w 12)),(90,(W w 13)),(89,(W w 14)),(88,(W w 15)),(87,(W w 16)),(86,(W w 17)),(85,(.b (!r3.1))),(84,(.b (!r3.1))),(83,(.b r3.1)),(0,(.p k0 0)),(3,(.p ⟨dp,3⟩ 0)),(5,(I a0.Kind)),(6,(.b r3.1)),(7,(.b r3.2.1)),(8,(.b r3.2.2)),(9,(.b (decide (7≤a0.Kind)))),(10,(.b x5)),(48,(.b x7))],[(3,(af a0))],ad hp k0 (aq c0)⟩=some (u5 dp hp k0 c0 a0 r3 x5 x7 u7_1 u8_1 x):=
 kC (.or (EI<|.jb (some 117) 20<|.ex fun (x16:Bool)=>ao (.jn ⟨[(0,(.p k0 0)),(3,(.p ⟨dp,3⟩ 0)),(5,(I a0.Kind)),(8,(.b r3.2.2)),(82,(.b x16))],[(3,(af a0))],ad hp k0 (aq c0)⟩)<|.nil) (dE<|.or (tV<|ao (.i (a0.Args.length:Int))<|Dy<|.jb (some 117) 20<|.ex fun (x17:Bool)=>ao (.jn ⟨[(0,(.p k0 0)),(3,(.p ⟨dp,3⟩ 0)),(5,(I a0.Kind)),(8,(.b r3.2.2)),(82,(.b x17))],[(3,(af a0))],ad hp k0 (aq c0)⟩)<|.nil) (MP<|.jb (some 117) 20<|.ex fun (x17:Bool)=>ao (.jn ⟨[(0,(.p k0 0)),(3,(.p ⟨dp,3⟩ 0)),(5,(I a0.Kind)),(8,(.b r3.2.2)),(82,(.b x17))],[(3,(af a0))],ad hp k0 (aq c0)⟩)<|.nil))) fun L=>a8 h (fun h15 h=>EH h15<|aQ h (jK dp hp k0 hk_k0 hz c0 a0 r3 x5 x7 u7_1 u8_1 true [.sk,.sk,.sk,.sk,.sk,.sk,.sk,.sk,(W w 0),(W w 1),(W w 2),(W w 3),(W w 4),(W w 5),(W w 6),(W w 7),(W w 8),(W w 9),(W w 10),(W w 11),(W w 12),(W w 13),(W w 14),(W w 15),(W w 16),(W w 17)]) fun x16 h=>L h) (fun h15 h=>EG h15<|a8 h (fun h16 h=>yY h16<|ai (rN dp)<|ai (g1 h16)<|ai (aL aT a0.Args)<|ai (g1 h16)<|ai (g0 h15)<|ai h16<|ai h15<|aQ h (jK dp hp k0 hk_k0 hz c0 a0 r3 x5 x7 u7_1 u8_1 (decide (0<(a0.Args.length:Int))) [(.b (decide (0<(a0.Args.length:Int)))),(.b (decide (0<(a0.Args.length:Int)))),(I (a0.Args.length:Int)),(.l 86 (a0.Args.map aT)),(.p ⟨dp,3⟩ 6),(.b (a0.Kind !=2)),(.b (a0.Kind !=2)),(I a0.Kind),(W w 0),(W w 1),(W w 2),(W w 3),(W w 4),(W w 5),(W w 6),(W w 7),(W w 8),(W w 9),(W w 10),(W w 11),(W w 12),(W w 13),(W w 14),(W w 15),(W w 16),(W w 17)]) fun x17 h=>L h) (fun h16 h=>Jj h16<|ai (g0 h15)<|ai h16<|ai h15<|aQ h (jK dp hp k0 hk_k0 hz c0 a0 r3 x5 x7 u7_1 u8_1 false [(.b false),.sk,.sk,.sk,.sk,(.b (a0.Kind !=2)),(.b (a0.Kind !=2)),(I a0.Kind),(W w 0),(W w 1),(W w 2),(W w 3),(W w 4),(W w 5),(W w 6),(W w 7),(W w 8),(W w 9),(W w 10),(W w 11),(W w 12),(W w 13),(W w 14),(W w 15),(W w 16),(W w 17)]) fun x17 h=>L h))
def oP:List dM:=(gM 99 98)::⟨some 100,.mv 8,some ⟨99,false⟩,false⟩::⟨some 101,.no 100,some ⟨99,false⟩,false⟩::⟨some 102,.mv 101,some ⟨99,false⟩,false⟩::⟨some 103,.mv 10,some ⟨102,true⟩,false⟩::⟨some 104,.no 103,some ⟨102,true⟩,false⟩::⟨some 105,.pk 102 104 (.c (.b false)),some ⟨99,false⟩,false⟩::(gp 106 (.pk 99 (.c (.b true)) 105))::oO
def cH(r3:(Bool×Bool×Bool))(x5:Bool)(x7:Bool)(u7_1:Bool):Option Bool:=
 if u7_1=true then
  (dI c0 a0 r3 x5 x7 u7_1 true).bind fun (x14:Bool)=>
  some x14
 else
  if r3.2.2=true then
   (dI c0 a0 r3 x5 x7 u7_1 false).bind fun (x15:Bool)=>
   some x15
  else
   (dI c0 a0 r3 x5 x7 u7_1 (!x5)).bind fun (x15:Bool)=>
   some x15
abbrev u6(c0:Checker)(a0:Stmt)(r3:(Bool×Bool×Bool))(x5:Bool)(x7:Bool)(u7_1:Bool)(x:Bool):St:=⟨[(0,(.p k0 0)),(3,(.p ⟨dp,3⟩ 0)),(5,(I a0.Kind)),(8,(.b r3.2.2)),(82,(.b x))],[(3,(af a0))],ad hp k0 (aq c0)⟩
theorem eo(hk_k0:k0.dp<dp)(hz:aN dp hp)(c0:Checker)(a0:Stmt)(r3:(Bool×Bool×Bool))(x5:Bool)(x7:Bool)(u7_1:Bool)(w:List AV)(x:Bool)(h:cH c0 a0 r3 x5 x7 u7_1=some x):lx G Ω0 ⟨dp,true⟩ [0,3,5,8,82] [0,3] oP ⟨[(98,(.b u7_1)),(97,(W w 0)),(96,(W w 1)),(95,(W w 2)),(94,(W w 3)),(93,(W w 4)),(92,(W w 5)),(91,(W w 6)),(90,(W w 7)),(89,(W w 8)),(88,(W w 9)),(87,(W w 10)),(86,(W w 11)),(85,(.b (!r3.1))),(84,(.b (!r3.1))),(83,(.b r3.1)),(0,(.p k0 0)),(3,(.p ⟨dp,3⟩ 0)),(5,(I a0.Kind)),(6,(.b r3.1)),(7,(.b r3.2.1)),(8,(.b r3.2.2)),(9,(.b (decide (7≤a0.Kind)))),(10,(.b x5)),(48,(.b x7))],[(3,(af a0))],ad hp k0 (aq c0)⟩=some (u6 dp hp k0 c0 a0 r3 x5 x7 u7_1 x):=
 kC (.or (EI<|.jb (some 107) 30<|.ex fun (x14:Bool)=>ao (.jn ⟨[(0,(.p k0 0)),(3,(.p ⟨dp,3⟩ 0)),(5,(I a0.Kind)),(8,(.b r3.2.2)),(82,(.b x14))],[(3,(af a0))],ad hp k0 (aq c0)⟩)<|.nil) (dE<|.or (bf<|bf<|bt<|bf<|bf<|.jb (some 107) 30<|.ex fun (x15:Bool)=>ao (.jn ⟨[(0,(.p k0 0)),(3,(.p ⟨dp,3⟩ 0)),(5,(I a0.Kind)),(8,(.b r3.2.2)),(82,(.b x15))],[(3,(af a0))],ad hp k0 (aq c0)⟩)<|.nil) (Ii<|.jb (some 107) 30<|.ex fun (x15:Bool)=>ao (.jn ⟨[(0,(.p k0 0)),(3,(.p ⟨dp,3⟩ 0)),(5,(I a0.Kind)),(8,(.b r3.2.2)),(82,(.b x15))],[(3,(af a0))],ad hp k0 (aq c0)⟩)<|.nil))) fun L=>a8 h (fun h13 h=>EH h13<|aQ h (jL dp hp k0 hk_k0 hz c0 a0 r3 x5 x7 u7_1 true [.sk,.sk,.sk,.sk,.sk,.sk,(W w 0),(W w 1),(W w 2),(W w 3),(W w 4),(W w 5),(W w 6),(W w 7),(W w 8),(W w 9),(W w 10),(W w 11)]) fun x14 h=>L h) (fun h13 h=>EG h13<|a8 h (fun h14 h=>yY (congrArg not h14)<|ai (g0 h13)<|ai (congrArg not h14)<|ai h13<|aQ h (jL dp hp k0 hk_k0 hz c0 a0 r3 x5 x7 u7_1 false [(.b false),.sk,.sk,(.b (!r3.2.2)),(.b (!r3.2.2)),(.b r3.2.2),(W w 0),(W w 1),(W w 2),(W w 3),(W w 4),(W w 5),(W w 6),(W w 7),(W w 8),(W w 9),(W w 10),(W w 11)]) fun x15 h=>L h) (fun h14 h=>yY (congrArg not h14)<|ai (g0 h13)<|ai (congrArg not h14)<|ai h13<|aQ h (jL dp hp k0 hk_k0 hz c0 a0 r3 x5 x7 u7_1 (!x5) [(.b (!x5)),(.b (!x5)),(.b x5),(.b (!r3.2.2)),(.b (!r3.2.2)),(.b r3.2.2),(W w 0),(W w 1),(W w 2),(W w 3),(W w 4),(W w 5),(W w 6),(W w 7),(W w 8),(W w 9),(W w 10),(W w 11)]) fun x15 h=>L h))
def u7:List dM:=(gM 83 6)::(gp 84 (.no 83))::(gM 85 84)::⟨some 86,.fa 1 3,some ⟨85,true⟩,false⟩::⟨some 87,.ld none 86,some ⟨85,true⟩,false⟩::⟨some 88,.bo .neq false 87 (kI 0),some ⟨85,true⟩,false⟩::(gp 89 (.pk 85 88 (.c (.b false))))::(gM 90 89)::⟨some 91,.mv 7,some ⟨90,false⟩,false⟩::⟨some 92,.no 91,some ⟨90,false⟩,false⟩::⟨some 93,.mv 92,some ⟨90,false⟩,false⟩::⟨some 94,.fa 2 3,some ⟨93,true⟩,false⟩::⟨some 95,.ld none 94,some ⟨93,true⟩,false⟩::⟨some 96,.bo .neq false 95 (kI 0),some ⟨93,true⟩,false⟩::⟨some 97,.pk 93 96 (.c (.b false)),some ⟨90,false⟩,false⟩::(gp 98 (.pk 90 (.c (.b true)) 97))::oP
def fX(r3:(Bool×Bool×Bool))(x5:Bool)(x7:Bool):Option Bool:=
 if r3.1=true then
  if r3.2.1=true then
   (cH c0 a0 r3 x5 x7 false).bind fun (x12:Bool)=>
   some x12
  else
   (cH c0 a0 r3 x5 x7 (a0.Other !=0)).bind fun (x12:Bool)=>
   some x12
 else
  if (a0.Var !=0)=true then
   (cH c0 a0 r3 x5 x7 true).bind fun (x12:Bool)=>
   some x12
  else
   if r3.2.1=true then
    (cH c0 a0 r3 x5 x7 false).bind fun (x13:Bool)=>
    some x13
   else
    (cH c0 a0 r3 x5 x7 (a0.Other !=0)).bind fun (x13:Bool)=>
    some x13
abbrev u9(c0:Checker)(a0:Stmt)(r3:(Bool×Bool×Bool))(x5:Bool)(x7:Bool)(x:Bool):St:=⟨[(0,(.p k0 0)),(3,(.p ⟨dp,3⟩ 0)),(5,(I a0.Kind)),(8,(.b r3.2.2)),(82,(.b x))],[(3,(af a0))],ad hp k0 (aq c0)⟩
theorem uk(hk_k0:k0.dp<dp)(hz:aN dp hp)(c0:Checker)(a0:Stmt)(r3:(Bool×Bool×Bool))(x5:Bool)(x7:Bool)(x:Bool)(h:fX c0 a0 r3 x5 x7=some x):lx G Ω0 ⟨dp,true⟩ [0,3,5,8,82] [0,3] u7 ⟨[(0,(.p k0 0)),(3,(.p ⟨dp,3⟩ 0)),(5,(I a0.Kind)),(6,(.b r3.1)),(7,(.b r3.2.1)),(8,(.b r3.2.2)),(9,(.b (decide (7≤a0.Kind)))),(10,(.b x5)),(48,(.b x7))],[(3,(af a0))],ad hp k0 (aq c0)⟩=some (u9 dp hp k0 c0 a0 r3 x5 x7 x):=
 kC (.or (bf<|bf<|bf<|bf<|bt<|bt<|bt<|.or (Jl<|.jb (some 99) 38<|.ex fun (x12:Bool)=>ao (.jn ⟨[(0,(.p k0 0)),(3,(.p ⟨dp,3⟩ 0)),(5,(I a0.Kind)),(8,(.b r3.2.2)),(82,(.b x12))],[(3,(af a0))],ad hp k0 (aq c0)⟩)<|.nil) (F2<|.jb (some 99) 38<|.ex fun (x12:Bool)=>ao (.jn ⟨[(0,(.p k0 0)),(3,(.p ⟨dp,3⟩ 0)),(5,(I a0.Kind)),(8,(.b r3.2.2)),(82,(.b x12))],[(3,(af a0))],ad hp k0 (aq c0)⟩)<|.nil)) (qE<|.or (EI<|.jb (some 99) 38<|.ex fun (x12:Bool)=>ao (.jn ⟨[(0,(.p k0 0)),(3,(.p ⟨dp,3⟩ 0)),(5,(I a0.Kind)),(8,(.b r3.2.2)),(82,(.b x12))],[(3,(af a0))],ad hp k0 (aq c0)⟩)<|.nil) (dE<|.or (Jl<|.jb (some 99) 38<|.ex fun (x13:Bool)=>ao (.jn ⟨[(0,(.p k0 0)),(3,(.p ⟨dp,3⟩ 0)),(5,(I a0.Kind)),(8,(.b r3.2.2)),(82,(.b x13))],[(3,(af a0))],ad hp k0 (aq c0)⟩)<|.nil) (F2<|.jb (some 99) 38<|.ex fun (x13:Bool)=>ao (.jn ⟨[(0,(.p k0 0)),(3,(.p ⟨dp,3⟩ 0)),(5,(I a0.Kind)),(8,(.b r3.2.2)),(82,(.b x13))],[(3,(af a0))],ad hp k0 (aq c0)⟩)<|.nil)))) fun L=>a8 h (fun h10 h=>ai (g1 (congrArg not h10))<|ai (g1 (congrArg not h10))<|ai (g1 (congrArg not h10))<|ai (congrArg not h10)<|ai hf<|ai hf<|ai hf<|a8 h (fun h11 h=>ai (g1 (congrArg not h11))<|ai (g1 (congrArg not h11))<|ai (g1 (congrArg not h11))<|ai hf<|ai (congrArg not h11)<|ai ff<|aQ h (eo dp hp k0 hk_k0 hz c0 a0 r3 x5 x7 false [(.b false),.sk,.sk,.sk,(.b (!r3.2.1)),(.b (!r3.2.1)),(.b r3.2.1),(.b false),(.b false),.sk,.sk,.sk]) fun x12 h=>L h) (fun h11 h=>yY (congrArg not h11)<|ai (rN dp)<|ai (g1 (congrArg not h11))<|ai hf<|ai (congrArg not h11)<|ai ff<|aQ h (eo dp hp k0 hk_k0 hz c0 a0 r3 x5 x7 (a0.Other !=0) [(.b (a0.Other !=0)),(.b (a0.Other !=0)),(I a0.Other),(.p ⟨dp,3⟩ 2),(.b (!r3.2.1)),(.b (!r3.2.1)),(.b r3.2.1),(.b false),(.b false),.sk,.sk,.sk]) fun x12 h=>L h)) (fun h10 h=>yY (congrArg not h10)<|ai (rN dp)<|Ih (congrArg not h10)<|a8 h (fun h11 h=>EH h11<|aQ h (eo dp hp k0 hk_k0 hz c0 a0 r3 x5 x7 true [.sk,.sk,.sk,.sk,.sk,.sk,.sk,(.b (a0.Var !=0)),(.b (a0.Var !=0)),(.b (a0.Var !=0)),(I a0.Var),(.p ⟨dp,3⟩ 1)]) fun x12 h=>L h) (fun h11 h=>EG h11<|a8 h (fun h12 h=>Ig (congrArg not h12)<|ai (g0 h11)<|ai (congrArg not h12)<|ai h11<|aQ h (eo dp hp k0 hk_k0 hz c0 a0 r3 x5 x7 false [(.b false),.sk,.sk,.sk,(.b (!r3.2.1)),(.b (!r3.2.1)),(.b r3.2.1),(.b (a0.Var !=0)),(.b (a0.Var !=0)),(.b (a0.Var !=0)),(I a0.Var),(.p ⟨dp,3⟩ 1)]) fun x13 h=>L h) (fun h12 h=>yY (congrArg not h12)<|ai (rN dp)<|ai (g1 (congrArg not h12))<|ai (g0 h11)<|ai (congrArg not h12)<|ai h11<|aQ h (eo dp hp k0 hk_k0 hz c0 a0 r3 x5 x7 (a0.Other !=0) [(.b (a0.Other !=0)),(.b (a0.Other !=0)),(I a0.Other),(.p ⟨dp,3⟩ 2),(.b (!r3.2.1)),(.b (!r3.2.1)),(.b r3.2.1),(.b (a0.Var !=0)),(.b (a0.Var !=0)),(.b (a0.Var !=0)),(I a0.Var),(.p ⟨dp,3⟩ 1)]) fun x13 h=>L h)))
def eZ(v0_173:Nat):Option (Nat⊕(Int⊕(Nat×Bool))):=
 if (v0_173:Int)<(a0.Args.length:Int) then
  (a0.Args[v0_173]?).bind fun (y24:aE)=>
  (jD y24 (c0.p.Vars.length:Int)).bind fun (r26:Int)=>
  if (r26 !=0)=true then
   some (.inr (.inl r26))
  else
   if IntKind.i64.wrap ((v0_173:Int)+1)=((v0_173+1:Nat):Int) then
    some (.inl (v0_173+1))
   else none
 else
  some (.inr (.inr (v0_173,decide ((v0_173:Int)<(a0.Args.length:Int)))))
abbrev wa(dp:Nat)(hp:HP)(k0:Key)(c0:Checker)(a0:Stmt)(v:Nat):St:=⟨[(0,(.p k0 0)),(171,(.l 86 (a0.Args.map aT))),(172,(I (a0.Args.length:Int))),(173,(I (v:Int)))],[],ad hp k0 (aq c0)⟩
abbrev wc(dp:Nat)(hp:HP)(k0:Key)(c0:Checker)(a0:Stmt)(x:(Int⊕(Nat×Bool))):aR×St:=match x with | .inl z1=>(.ret,⟨[(4,(I z1))],[],ad hp k0 (aq c0)⟩) | .inr (z1,z2)=>((.ex 1),⟨[(0,(.p k0 0)),(171,(.l 86 (a0.Args.map aT))),(172,(I (a0.Args.length:Int))),(173,(I (z1:Int))),(174,(.b z2))],[],ad hp k0 (aq c0)⟩)
theorem va(hk_k0:k0.dp<dp)(hz:aN dp hp)(c0:Checker)(a0:Stmt)(v0_173:Nat)(o:Nat⊕(Int⊕(Nat×Bool)))(h:eZ c0 a0 v0_173=some o):bI ⟨dp,true⟩ Ka (wa dp hp k0 c0 a0) (wc dp hp k0 c0 a0) v0_173 o:=
 bP (.or (bt<|ao (.n v0_173)<|.ex fun (y24:aE)=>ao (.v (.a (bF y24)))<|Dy<|ao (.l (aq c0))<|ao (.i (c0.p.Vars.length:Int))<|xI fun r26=>oN (ao (.i ((v0_173+1:Nat):Int))<|.nil)) (bf<|.nil)) fun L=>cb h (fun h23 h=>ai (decide_eq_true h23)<|ai (rI v0_173)<|aP h fun y24 h25 h=>ai (iy aT h25 (eS _))<|ai ((by simp [bF,AV.aI,AV.aJ,AV.deep,AV.bn,aj hk_k0,Nat.le_of_lt hk_k0]):(([(176,(.a (bF y24))),(175,(.e (.a (bF y24)) 0)),(0,(.p k0 0)),(171,(.l 86 (a0.Args.map aT))),(172,(I (a0.Args.length:Int))),(173,(I (v0_173:Int)))]:List (Nat×AV)).all (fun y=>y.2.aI ⟨dp,13⟩)&&([]:List (Nat×List AV)).all (fun y=>AV.aJ ⟨dp,13⟩ y.2))=true)<|ai (rfl:dp=dp)<|ai (rN dp)<|ai tt<|ai (rN dp)<|ai tt<|ai (rN dp)<|oT<|ai (Nat.ne_of_lt hk_k0)<|ai (aG hp k0 (aq c0))<|ai tt<|ai (aL bz c0.p.Vars)<|ai tt<|aQ h (qG y24 (c0.p.Vars.length:Int)) fun r26 h=>a8 h (fun h28 h=>ai h28<|L h) (fun h28 h=>ai h28<|aS h fun w29 h=>ai w29<|L h)) (fun h23 h=>ai (decide_eq_false h23)<|L h)
def eI:Option (Int⊕Unit):=
 (lp (fun v=>eZ c0 a0 v) 0).bind fun (x23:(Int⊕(Nat×Bool)))=>match x23 with
 | .inl ya_24=>
  some (.inl ya_24)
 | .inr yb_24=>
  some (.inr ())
abbrev vc(dp:Nat)(hp:HP)(k0:Key)(c0:Checker)(a0:Stmt)(x:(Int⊕Unit)):aR×St:=match x with | .inl z1=>(.ret,⟨[(4,(I z1))],[],ad hp k0 (aq c0)⟩) | .inr ()=>(.ret,⟨[(4,(I 0))],[],ad hp k0 (aq c0)⟩)
theorem nH(hk_k0:k0.dp<dp)(hz:aN dp hp)(c0:Checker)(a0:Stmt)(x:(Int⊕Unit))(h:eI c0 a0=some x):run G Ω0 ⟨dp,true⟩ Kb ⟨[(0,(.p k0 0)),(3,(.p ⟨dp,3⟩ 0))],[(3,(af a0))],ad hp k0 (aq c0)⟩=some (vc dp hp k0 c0 a0 x):=
 tc (bt<|ao (.i (a0.Args.length:Int))<|.or (.ex fun (ya_24:Int)=>ao (.lp .ret ⟨[(4,(I ya_24))],[],ad hp k0 (aq c0)⟩)<|.nil) (.ex fun (yb_24:(Nat×Bool))=>ao (.lp (.ex 1) ⟨[(0,(.p k0 0)),(171,(.l 86 (a0.Args.map aT))),(172,(I (a0.Args.length:Int))),(173,(I (yb_24.1:Int))),(174,(.b yb_24.2))],[],ad hp k0 (aq c0)⟩)<|.nil)) fun L=>ai (rN dp)<|ai (aL aT a0.Args)<|cN h (ef (va dp hp k0 hk_k0 hz c0 a0) 0) (fun ya_24 h=>L h) (fun yb_24 h=>L h)
def eJ(r3:(Bool×Bool×Bool)):Option (Int⊕Unit):=
 if r3.2.2=true then
  (jD a0.Expr (c0.p.Vars.length:Int)).bind fun (r20:Int)=>
  if (r20 !=0)=true then
   some (.inl r20)
  else
   (eI c0 a0).bind fun (x23:(Int⊕Unit))=>match x23 with
   | .inl ya_24=>
    some (.inl ya_24)
   | .inr yb_24=>
    some (.inr ())
 else
  (eI c0 a0).bind fun (x20:(Int⊕Unit))=>match x20 with
  | .inl ya_21=>
   some (.inl ya_21)
  | .inr yb_21=>
   some (.inr ())
abbrev vd(dp:Nat)(hp:HP)(k0:Key)(c0:Checker)(a0:Stmt)(r3:(Bool×Bool×Bool))(x:(Int⊕Unit)):aR×St:=match x with | .inl z1=>(.ret,⟨[(4,(I z1))],[],ad hp k0 (aq c0)⟩) | .inr ()=>(.ret,⟨[(4,(I 0))],[],ad hp k0 (aq c0)⟩)
theorem nI(hk_k0:k0.dp<dp)(hz:aN dp hp)(c0:Checker)(a0:Stmt)(r3:(Bool×Bool×Bool))(x:(Int⊕Unit))(h:eJ c0 a0 r3=some x):run G Ω0 ⟨dp,true⟩ Kc ⟨[(0,(.p k0 0)),(3,(.p ⟨dp,3⟩ 0)),(8,(.b r3.2.2))],[(3,(af a0))],ad hp k0 (aq c0)⟩=some (vd dp hp k0 c0 a0 r3 x):=
 tc (.or (bt<|bt<|bf<|ao (.l (aq c0))<|ao (.i (c0.p.Vars.length:Int))<|xI fun r20=>oN (.fb<|.or (.ex fun (ya_24:Int)=>ao (.fr .ret ⟨[(4,(I ya_24))],[],ad hp k0 (aq c0)⟩)<|.nil) (.ex fun (yb_24:Unit)=>ao (.fr .ret ⟨[(4,(I 0))],[],ad hp k0 (aq c0)⟩)<|.nil))) (bf<|.fb<|.or (.ex fun (ya_21:Int)=>ao (.fr .ret ⟨[(4,(I ya_21))],[],ad hp k0 (aq c0)⟩)<|.nil) (.ex fun (yb_21:Unit)=>ao (.fr .ret ⟨[(4,(I 0))],[],ad hp k0 (aq c0)⟩)<|.nil))) fun L=>a8 h (fun h19 h=>F1 h19<|ai (rN dp)<|oT<|ai (Nat.ne_of_lt hk_k0)<|ai (aG hp k0 (aq c0))<|ai tt<|ai (aL bz c0.p.Vars)<|ai tt<|aQ h (qG a0.Expr (c0.p.Vars.length:Int)) fun r20 h=>a8 h (fun h22 h=>ai h22<|L h) (fun h22 h=>ai h22<|cN h (nH dp hp k0 hk_k0 hz c0 a0) (fun ya_24 h=>L h) (fun yb_24 h=>L h))) (fun h19 h=>ai h19<|cN h (nH dp hp k0 hk_k0 hz c0 a0) (fun ya_21 h=>L h) (fun yb_21 h=>L h))
abbrev xD(dp:Nat)(hp:HP)(k0:Key)(c0:Checker)(a0:Stmt)(r:Int):aW×HP:=(.ret (I r),ad hp k0 (aq c0))
def ja:Option Int:=
 if a0.Kind<1 then
  some 7
 else
  if 8<a0.Kind then
   some 7
  else
   (pN a0.Kind).bind fun (r3:(Bool×Bool×Bool))=>
   (fV c0 a0 r3).bind fun (x5:Bool)=>
   (fW c0 a0 r3 x5).bind fun (x7:Bool)=>
   if x7=true then
    some 5
   else
    (fX c0 a0 r3 x5 x7).bind fun (x10:Bool)=>
    if x10=true then
     some 1
    else
     if (a0.Kind==2)=true then
      (cX a0.Other).bind fun (j14:Nat)=>
      (c0.p.Funcs[j14]?).bind fun (y16:Func)=>
      if ((a0.Args.length:Int) !=(y16.Params.length:Int))=true then
       some 1
      else
       (eJ c0 a0 r3).bind fun (x19:(Int⊕Unit))=>match x19 with
       | .inl ya_20=>
        some ya_20
       | .inr yb_20=>
        some 0
     else
      (eJ c0 a0 r3).bind fun (x14:(Int⊕Unit))=>match x14 with
      | .inl ya_15=>
       some ya_15
      | .inr yb_15=>
       some 0
theorem ve(hk_k0:k0.dp<dp)(hz:aN dp hp)(c0:Checker)(a0:Stmt)(r:Int)(h:ja c0 a0=some r):call G Ω0 ⟨dp,true⟩ 138 [(.p k0 0),(.a (af a0))] (ad hp k0 (aq c0))=some (xD dp hp k0 c0 a0 r):=
 aK ZE (bt<|.or (bf<|bf<|bt<|bt<|.nil) (bt<|bt<|bf<|oN (.ex fun (r3:(Bool×Bool×Bool))=>ao (.v (.tp [(.b r3.1),(.b r3.2.1),(.b r3.2.2)]))<|.jb (some 31) 17<|.ex fun (x5:Bool)=>ao (.jn ⟨[(0,(.p k0 0)),(3,(.p ⟨dp,3⟩ 0)),(5,(I a0.Kind)),(6,(.b r3.1)),(7,(.b r3.2.1)),(8,(.b r3.2.2)),(9,(.b (decide (7≤a0.Kind)))),(10,(.b x5))],[(3,(af a0))],ad hp k0 (aq c0)⟩)<|.jb (some 49) 33<|.ex fun (x7:Bool)=>ao (.jn ⟨[(0,(.p k0 0)),(3,(.p ⟨dp,3⟩ 0)),(5,(I a0.Kind)),(6,(.b r3.1)),(7,(.b r3.2.1)),(8,(.b r3.2.2)),(9,(.b (decide (7≤a0.Kind)))),(10,(.b x5)),(48,(.b x7))],[(3,(af a0))],ad hp k0 (aq c0)⟩)<|oN (.jb (some 83) 54<|.ex fun (x10:Bool)=>ao (.jn ⟨[(0,(.p k0 0)),(3,(.p ⟨dp,3⟩ 0)),(5,(I a0.Kind)),(8,(.b r3.2.2)),(82,(.b x10))],[(3,(af a0))],ad hp k0 (aq c0)⟩)<|oN (.or (tV<|ao (.i (a0.Args.length:Int))<|bt<|bt<|bt<|bt<|bt<|bf<|ao (.l (aq c0))<|tV<|xN fun j14=>.ex fun (y16:Func)=>ao (.v (.a (cD y16)))<|dE<|ao (.i (y16.Params.length:Int))<|du<|oN (.fb<|.or (.ex fun (ya_20:Int)=>ao (.fr .ret ⟨[(4,(I ya_20))],[],ad hp k0 (aq c0)⟩)<|.nil) (.ex fun (yb_20:Unit)=>ao (.fr .ret ⟨[(4,(I 0))],[],ad hp k0 (aq c0)⟩)<|.nil))) (bf<|bf<|bf<|bf<|bf<|bf<|bf<|bf<|bf<|bf<|bf<|bf<|bf<|bf<|bf<|bf<|bf<|.fb<|.or (.ex fun (ya_15:Int)=>ao (.fr .ret ⟨[(4,(I ya_15))],[],ad hp k0 (aq c0)⟩)<|.nil) (.ex fun (yb_15:Unit)=>ao (.fr .ret ⟨[(4,(I 0))],[],ad hp k0 (aq c0)⟩)<|.nil))))))) fun L=>ai ((by simp [af,AV.aI,AV.aJ,AV.deep,AV.bn,aj hk_k0,Nat.le_of_lt hk_k0]):(((.a (af a0)):AV).deep dp&&(([(0,(.p k0 0)),(1,(.a (af a0)))]:List (Nat×AV)).all (fun y=>y.2.aI ⟨dp,3⟩)&&([]:List (Nat×List AV)).all (fun y=>AV.aJ ⟨dp,3⟩ y.2)))=true)<|ai (rN dp)<|cb h (fun h1 h=>ai (g0 (decide_eq_true h1))<|ai (g0 (decide_eq_true h1))<|ai (decide_eq_true h1)<|ai tt<|L h) (fun h1 h=>ai (g0 (decide_eq_false h1))<|ai (g0 (decide_eq_false h1))<|ai (decide_eq_false h1)<|cb h (fun h2 h=>ai (decide_eq_true h2)<|L h) (fun h2 h=>ai (decide_eq_false h2)<|aQ h (Bl a0.Kind) fun r3 h=>aQ h (ug dp hp k0 hk_k0 hz c0 a0 r3) fun x5 h=>ai tt<|aQ h (uh dp hp k0 hk_k0 hz c0 a0 r3 x5) fun x7 h=>a8 h (fun h9 h=>ai h9<|L h) (fun h9 h=>ai h9<|aQ h (uk dp hp k0 hk_k0 hz c0 a0 r3 x5 x7) fun x10 h=>a8 h (fun h12 h=>ai h12<|L h) (fun h12 h=>A8 h12<|a8 h (fun h13 h=>ai (g1 h13)<|ai tt<|ai (g1 h13)<|ai (rN dp)<|ai tt<|ai (g1 h13)<|ai (aL aT a0.Args)<|ai tt<|ai (g1 h13)<|ai tt<|ai (g1 h13)<|ai tt<|ai (g1 h13)<|ai tt<|ai (g1 h13)<|ai tt<|ai (g1 h13)<|ai (Nat.ne_of_lt hk_k0)<|ai (aG hp k0 (aq c0))<|ai tt<|ai (g1 h13)<|ai tt<|ai (g1 h13)<|ai (rN dp)<|ai tt<|ai (g1 h13)<|eN h fun j14 h15 h=>ai h15<|aP h fun y16 h17 h=>ai (aD ba h17)<|ai tt<|ai (g1 h13)<|ai tt<|ai (g1 h13)<|ai tt<|ai (g1 h13)<|ai (aL (I) y16.Params)<|ai tt<|ai (g1 h13)<|ai h13<|a8 h (fun h18 h=>ai h18<|L h) (fun h18 h=>ai h18<|cN h (nI dp hp k0 hk_k0 hz c0 a0 r3) (fun ya_20 h=>L h) (fun yb_20 h=>L h))) (fun h13 h=>ai (g1 h13)<|ai (g1 h13)<|ai (g1 h13)<|ai (g1 h13)<|ai (g1 h13)<|ai (g1 h13)<|ai (g1 h13)<|ai (g1 h13)<|ai (g1 h13)<|ai (g1 h13)<|ai (g1 h13)<|ai (g1 h13)<|ai (g1 h13)<|ai (g1 h13)<|ai (g1 h13)<|ai h13<|ai ff<|cN h (nI dp hp k0 hk_k0 hz c0 a0 r3) (fun ya_15 h=>L h) (fun yb_15 h=>L h))))))
end
section
variable (dp:Nat)(hp:HP)(k0:Key)(a0:Stmt)
abbrev vf(dp:Nat)(hp:HP)(k0:Key)(k1:Key)(k2:Key)(a0:Stmt)(a1:Int)(c0:Unit)(c1:Checker)(c2:Int)(r:(Bool×Unit×Int)):aW×HP:=(.ret (.b r.1),ad (ad (ad hp k0 [(.p k1 0)]) k1 (aq c1)) k2 [(I r.2.2)])
def kq(a1:Int)(c0:Unit)(c1:Checker)(c2:Int):Option (Bool×Unit×Int):=
 (ja c1 a0).bind fun (r1:Int)=>
 some ((r1==0),(),r1)
theorem sR(hk_k0:k0.dp<dp)(k1:Key)(hk_k1:k1.dp<dp)(k2:Key)(hk_k2:k2.dp<dp)(hn_k0_k1:k0≠k1)(hn_k0_k2:k0≠k2)(hn_k1_k2:k1≠k2)(hz:aN dp hp)(a0:Stmt)(a1:Int)(c0:Unit)(c1:Checker)(c2:Int)(r:(Bool×Unit×Int))(h:kq a0 a1 c0 c1 c2=some r):call G Ω0 ⟨dp,false⟩ 137 [(.a (af a0)),(I a1),(.p k0 0),(.p k2 0)] (ad (ad (ad hp k0 [(.p k1 0)]) k1 (aq c1)) k2 [(I c2)])=some (vf dp hp k0 k1 k2 a0 a1 c0 c1 c2 r):=
 aK ZD (bf<|ao (.l [(.p k1 0)])<|bt<|xI fun r1=>ao (.h (boxes dp [(4,(af a0))] (ad (ad (ad hp k0 [(.p k1 0)]) k1 (aq c1)) k2 [(I c2)])))<|bf<|ao (.l [(I c2)])<|bf<|ao (.h (ad (ad (ad hp k0 [(.p k1 0)]) k1 (aq c1)) k2 [(I r1)]))<|bf<|ao (.l [(I r1)])<|.nil) fun L=>ai ((by simp [af,AV.aI,AV.aJ,AV.deep,AV.bn,aj hk_k0,Nat.le_of_lt hk_k0,aj hk_k1,Nat.le_of_lt hk_k1,aj hk_k2,Nat.le_of_lt hk_k2]):(((.a (af a0)):AV).deep dp&&(([(0,(.a (af a0))),(1,(I a1)),(2,(.p k0 0)),(3,(.p k2 0))]:List (Nat×AV)).all (fun y=>y.2.aI ⟨dp,4⟩)&&([]:List (Nat×List AV)).all (fun y=>AV.aJ ⟨dp,4⟩ y.2)))=true)<|ai (Nat.ne_of_lt hk_k0)<|ai (cE hn_k0_k1 hn_k0_k2:(ad (ad (ad hp k0 [(.p k1 0)]) k1 (aq c1)) k2 [(I c2)]) k0=some [(.p k1 0)])<|ai (rN dp)<|ai tt<|aP h fun r1 ek2 h=>have ek2:call G Ω0 ⟨dp+1,true⟩ 138 [(.p k1 0),(.a (af a0))] (boxes dp [(4,(af a0))] (ad (ad (ad hp k0 [(.p k1 0)]) k1 (aq c1)) k2 [(I c2)]))=some (.ret (I r1),boxes dp [(4,(af a0))] (ad (ad (ad hp k0 [(.p k1 0)]) k1 (aq c1)) k2 [(I c2)])):=cT (bN (hp1:=ad (ad (ad hp k0 [(.p k1 0)]) k1 (aq c1)) k2 [(I c2)]) (Nat.ne_of_lt hk_k1) (bU (Ne.symm hn_k1_k2) (bh ..))) (bN (hp1:=ad (ad (ad hp k0 [(.p k1 0)]) k1 (aq c1)) k2 [(I c2)]) (Nat.ne_of_lt hk_k1) (bU (Ne.symm hn_k1_k2) (bh ..))) (ve (dp+1) (boxes dp [(4,(af a0))] (ad (ad (ad hp k0 [(.p k1 0)]) k1 (aq c1)) k2 [(I c2)])) k1 (Nat.lt_succ_of_lt hk_k1) (az (ab hk_k2 (ab hk_k1 (ab hk_k0 (hz))))) c1 a0 _ ek2);ai ek2<|ai ff<|ai (Nat.ne_of_lt hk_k2)<|ai (aG (ad (ad hp k0 [(.p k1 0)]) k1 (aq c1)) k2 [(I c2)])<|ai tt<|ai (Nat.ne_of_lt hk_k2)<|ai (bh (ad (ad hp k0 [(.p k1 0)]) k1 (aq c1)) k2 [(I c2)] [(I r1)])<|ai (Nat.ne_of_lt hk_k2)<|ai (aG (ad (ad hp k0 [(.p k1 0)]) k1 (aq c1)) k2 [(I r1)])<|L h
end
section
variable (dp:Nat)(hp:HP)(k0:Key)(k1:Key)(k2:Key)(a0:(List Stmt))(a1:Int)(c0:Unit)(c1:Checker)(c2:Int)
abbrev ou(dp:Nat)(hp:HP)(k0:Key)(k1:Key)(k2:Key)(a0:(List Stmt))(a1:Int)(c0:Unit)(c1:Checker)(c2:Int)(r:(Bool×Unit×Int)):aW×HP:=(.ret (.b r.1),ad (ad (ad hp k0 [(.p k1 0)]) k1 (aq c1)) k2 [(I r.2.2)])
abbrev eC(r:(Bool×Unit×Int)):Prop:=call G Ω0 ⟨dp,false⟩ 99 [(.l 88 (a0.map aH)),(I a1),(.f 137 [(.p k0 0),(.p k2 0)])] (ad (ad (ad hp k0 [(.p k1 0)]) k1 (aq c1)) k2 [(I c2)])=some (ou dp hp k0 k1 k2 a0 a1 c0 c1 c2 r)
end
structure eD where
 f_scope_Walk__scope_checker_stmts_1:(List Stmt)→Int→Unit→Checker→Int→Option (Bool×Unit×Int)
structure ep(R:eD):Prop where
 f_scope_Walk__scope_checker_stmts_1:∀ (dp:Nat)(hp:HP)(k0:Key)(hk_k0:k0.dp<dp)(k1:Key)(hk_k1:k1.dp<dp)(k2:Key)(hk_k2:k2.dp<dp)(hn_k0_k1:k0≠k1)(hn_k0_k2:k0≠k2)(hn_k1_k2:k1≠k2)(hz:aN dp hp)(a0:(List Stmt))(a1:Int)(c0:Unit)(c1:Checker)(c2:Int)(r:(Bool×Unit×Int)),R.f_scope_Walk__scope_checker_stmts_1 a0 a1 c0 c1 c2=some r→eC dp hp k0 k1 k2 a0 a1 c0 c1 c2 r
section
variable (R:eD)(a0:(List Stmt))(a1:Int)(c1:Checker)(dp:Nat)(hp:HP)(k0:Key)(c0:Unit)
def c8(v0_11:Nat)(v0_k2_0:Int):Option ((Nat×Int)⊕(Int⊕(Nat×Bool×Int))):=
 if (v0_11:Int)<(a0.length:Int) then
  (a0[v0_11]?).bind fun (y2:Stmt)=>
  (kq y2 a1 () c1 v0_k2_0).bind fun (r4:(Bool×Unit×Int))=>
  if r4.1=true then
   if IntKind.i64.wrap (a1+1)=a1+1 then
    (R.f_scope_Walk__scope_checker_stmts_1 y2.Then (a1+1) () c1 r4.2.2).bind fun (r8:(Bool×Unit×Int))=>
    if r8.1=true then
     (R.f_scope_Walk__scope_checker_stmts_1 y2.Else (a1+1) () c1 r8.2.2).bind fun (r11:(Bool×Unit×Int))=>
     if r11.1=true then
      if IntKind.i64.wrap ((v0_11:Int)+1)=((v0_11+1:Nat):Int) then
       some (.inl (v0_11+1,r11.2.2))
      else none
     else
      some (.inr (.inl r11.2.2))
    else
     some (.inr (.inl r8.2.2))
   else none
  else
   some (.inr (.inl r4.2.2))
 else
  some (.inr (.inr (v0_11,decide ((v0_11:Int)<(a0.length:Int)),v0_k2_0)))
abbrev na(dp:Nat)(hp:HP)(k0:Key)(k1:Key)(k2:Key)(a0:(List Stmt))(a1:Int)(c1:Checker)(v:(Nat×Int)):St:=⟨[(1,(I a1)),(2,(.f 137 [(.p k0 0),(.p k2 0)])),(9,(.l 88 (a0.map aH))),(10,(I (a0.length:Int))),(11,(I (v.1:Int)))],[],ad (ad (ad hp k0 [(.p k1 0)]) k1 (aq c1)) k2 [(I v.2)]⟩
abbrev nd(dp:Nat)(hp:HP)(k0:Key)(k1:Key)(k2:Key)(a0:(List Stmt))(a1:Int)(c1:Checker)(x:(Int⊕(Nat×Bool×Int))):aR×St:=match x with | .inl z1=>(.ret,⟨[(6,(.b false))],[],ad (ad (ad hp k0 [(.p k1 0)]) k1 (aq c1)) k2 [(I z1)]⟩) | .inr (z1,z2,z3)=>((.ex 0),⟨[(1,(I a1)),(2,(.f 137 [(.p k0 0),(.p k2 0)])),(9,(.l 88 (a0.map aH))),(10,(I (a0.length:Int))),(11,(I (z1:Int))),(12,(.b z2))],[],ad (ad (ad hp k0 [(.p k1 0)]) k1 (aq c1)) k2 [(I z3)]⟩)
theorem mM(hR:ep R)(dp:Nat)(hp:HP)(k0:Key)(hk_k0:k0.dp<dp)(k1:Key)(hk_k1:k1.dp<dp)(k2:Key)(hk_k2:k2.dp<dp)(hn_k0_k1:k0≠k1)(hn_k0_k2:k0≠k2)(hn_k1_k2:k1≠k2)(hz:aN dp hp)(a0:(List Stmt))(a1:Int)(c1:Checker)(v0_11:Nat)(v0_k2_0:Int)(o:(Nat×Int)⊕(Int⊕(Nat×Bool×Int)))(h:c8 R a0 a1 c1 v0_11 v0_k2_0=some o):bI ⟨dp,false⟩ Fv (na dp hp k0 k1 k2 a0 a1 c1) (nd dp hp k0 k1 k2 a0 a1 c1) (v0_11,v0_k2_0) o:=
 bP (.or (bt<|ao (.n v0_11)<|.ex fun (y2:Stmt)=>ao (.v (.a (af y2)))<|dE<|.ex fun (r4:(Bool×Unit×Int))=>ao (.v (.b r4.1))<|ao (.h (boxes dp [(8,(af y2))] (ad (ad (ad hp k0 [(.p k1 0)]) k1 (aq c1)) k2 [(I r4.2.2)])))<|ao (.bx [(8,(af y2))])<|ao (.h (ad (ad (ad hp k0 [(.p k1 0)]) k1 (aq c1)) k2 [(I r4.2.2)]))<|.or (qE<|ao (.i (a1+1))<|du<|.ex fun (r8:(Bool×Unit×Int))=>ao (.v (.b r8.1))<|ao (.h (boxes dp [(8,(af y2))] (ad (ad (ad hp k0 [(.p k1 0)]) k1 (aq c1)) k2 [(I r8.2.2)])))<|ao (.bx [(8,(af y2))])<|ao (.h (ad (ad (ad hp k0 [(.p k1 0)]) k1 (aq c1)) k2 [(I r8.2.2)]))<|kD<|.or (qE<|ao (.i (a1+1))<|du<|.ex fun (r11:(Bool×Unit×Int))=>ao (.v (.b r11.1))<|ao (.h (boxes dp [(8,(af y2))] (ad (ad (ad hp k0 [(.p k1 0)]) k1 (aq c1)) k2 [(I r11.2.2)])))<|ao (.bx [(8,(af y2))])<|ao (.h (ad (ad (ad hp k0 [(.p k1 0)]) k1 (aq c1)) k2 [(I r11.2.2)]))<|kD<|.or (bf<|ao (.i ((v0_11+1:Nat):Int))<|.nil) (bt<|.nil)) (MN<|.nil)) (MO<|.nil)) (bf<|.nil)) fun L=>cb h (fun h1 h=>ai (decide_eq_true h1)<|ai (rI v0_11)<|aP h fun y2 h3 h=>ai (iy aH h3 (kY _))<|ai ((by simp [af,AV.aI,AV.aJ,AV.deep,AV.bn,aj hk_k0,Nat.le_of_lt hk_k0,aj hk_k1,Nat.le_of_lt hk_k1,aj hk_k2,Nat.le_of_lt hk_k2]):(([(14,(.a (af y2))),(13,(.e (.a (af y2)) 0)),(1,(I a1)),(2,(.f 137 [(.p k0 0),(.p k2 0)])),(9,(.l 88 (a0.map aH))),(10,(I (a0.length:Int))),(11,(I (v0_11:Int)))]:List (Nat×AV)).all (fun y=>y.2.aI ⟨dp,8⟩)&&([]:List (Nat×List AV)).all (fun y=>AV.aJ ⟨dp,8⟩ y.2))=true)<|ai ff<|ai (rN dp)<|ai tt<|ai (rN dp)<|ai (rN dp)<|eY<|aP h fun r4 ek5 h=>have ek5:=iH hk_k0 hk_k1 hk_k2 hn_k0_k1 hn_k0_k2 hn_k1_k2 (sR (dp+1) (boxes dp [(8,(af y2))] (ad (ad (ad hp k0 [(.p k1 0)]) k1 (aq c1)) k2 [(I v0_k2_0)])) k0 (Nat.lt_succ_of_lt hk_k0) k1 (Nat.lt_succ_of_lt hk_k1) k2 (Nat.lt_succ_of_lt hk_k2) (hn_k0_k1) (hn_k0_k2) (hn_k1_k2) (az (ab hk_k2 (ab hk_k1 (ab hk_k0 (hz))))) y2 a1 () c1 v0_k2_0 _ ek5);ai ek5<|ai (cL ek5 (by kernel_rfl) (by kernel_rfl))<|ai (cM ek5 (ab hk_k2 (ab hk_k1 (ab hk_k0 (hz)))))<|a8 h (fun h6 h=>sL (congrArg not h6)<|ai (rN dp)<|sL (congrArg not h6)<|aS h fun w7 h=>ai w7<|A7 (congrArg not h6)<|aP h fun r8 ek9 h=>have ek9:=iH hk_k0 hk_k1 hk_k2 hn_k0_k1 hn_k0_k2 hn_k1_k2 (hR.f_scope_Walk__scope_checker_stmts_1 (dp+1) (boxes dp [(8,(af y2))] (ad (ad (ad hp k0 [(.p k1 0)]) k1 (aq c1)) k2 [(I r4.2.2)])) k0 (Nat.lt_succ_of_lt hk_k0) k1 (Nat.lt_succ_of_lt hk_k1) k2 (Nat.lt_succ_of_lt hk_k2) (hn_k0_k1) (hn_k0_k2) (hn_k1_k2) (az (ab hk_k2 (ab hk_k1 (ab hk_k0 (hz))))) y2.Then (a1+1) () c1 r4.2.2 _ ek9);ai ek9<|ai (cL ek9 (by kernel_rfl) (by kernel_rfl))<|ai (cM ek9 (ab hk_k2 (ab hk_k1 (ab hk_k0 (hz)))))<|tU (congrArg not h6)<|a8 h (fun h10 h=>sL (congrArg not h10)<|ai (rN dp)<|sL (congrArg not h10)<|ai w7<|A7 (congrArg not h10)<|aP h fun r11 ek12 h=>have ek12:=iH hk_k0 hk_k1 hk_k2 hn_k0_k1 hn_k0_k2 hn_k1_k2 (hR.f_scope_Walk__scope_checker_stmts_1 (dp+1) (boxes dp [(8,(af y2))] (ad (ad (ad hp k0 [(.p k1 0)]) k1 (aq c1)) k2 [(I r8.2.2)])) k0 (Nat.lt_succ_of_lt hk_k0) k1 (Nat.lt_succ_of_lt hk_k1) k2 (Nat.lt_succ_of_lt hk_k2) (hn_k0_k1) (hn_k0_k2) (hn_k1_k2) (az (ab hk_k2 (ab hk_k1 (ab hk_k0 (hz))))) y2.Else (a1+1) () c1 r8.2.2 _ ek12);ai ek12<|ai (cL ek12 (by kernel_rfl) (by kernel_rfl))<|ai (cM ek12 (ab hk_k2 (ab hk_k1 (ab hk_k0 (hz)))))<|tU (congrArg not h10)<|a8 h (fun h13 h=>ai (congrArg not h13)<|aS h fun w14 h=>ai w14<|L h) (fun h13 h=>ai (congrArg not h13)<|L h)) (fun h10 h=>MH (congrArg not h10)<|L h)) (fun h6 h=>MI (congrArg not h6)<|L h)) (fun h1 h=>ai (decide_eq_false h1)<|L h)
def di(c0:Unit)(c1:Checker)(c2:Int):Option (Bool×Unit×Int):=
 (lp (fun v=>c8 R a0 a1 c1 v.1 v.2) (0,c2)).bind fun (x1:(Int⊕(Nat×Bool×Int)))=>match x1 with
 | .inl ya_2=>
  some (false,(),ya_2)
 | .inr yb_2=>
  some (true,(),yb_2.2.2)
theorem mz(hR:ep R)(dp:Nat)(hp:HP)(k0:Key)(hk_k0:k0.dp<dp)(k1:Key)(hk_k1:k1.dp<dp)(k2:Key)(hk_k2:k2.dp<dp)(hn_k0_k1:k0≠k1)(hn_k0_k2:k0≠k2)(hn_k1_k2:k1≠k2)(hz:aN dp hp)(a0:(List Stmt))(a1:Int)(c0:Unit)(c1:Checker)(c2:Int)(r:(Bool×Unit×Int))(h:di R a0 a1 c0 c1 c2=some r):eC dp hp k0 k1 k2 a0 a1 c0 c1 c2 r:=
 aK Sw (ao (.i (a0.length:Int))<|.or (.ex fun (ya_2:Int)=>ao (.lp .ret ⟨[(6,(.b false))],[],ad (ad (ad hp k0 [(.p k1 0)]) k1 (aq c1)) k2 [(I ya_2)]⟩)<|.nil) (.ex fun (yb_2:(Nat×Bool×Int))=>ao (.lp (.ex 0) ⟨[(1,(I a1)),(2,(.f 137 [(.p k0 0),(.p k2 0)])),(9,(.l 88 (a0.map aH))),(10,(I (a0.length:Int))),(11,(I (yb_2.1:Int))),(12,(.b yb_2.2.1))],[],ad (ad (ad hp k0 [(.p k1 0)]) k1 (aq c1)) k2 [(I yb_2.2.2)]⟩)<|.nil)) fun L=>ai (aL aH a0)<|cN h (ef (fun v=>mM R hR dp hp k0 hk_k0 k1 hk_k1 k2 hk_k2 hn_k0_k1 hn_k0_k2 hn_k1_k2 hz a0 a1 c1 v.1 v.2) (0,c2)) (fun ya_2 h=>L h) (fun yb_2 h=>L h)
def ct:Nat→eD
 | 0=>⟨fun z0 z1 z2 z3 z4=>none⟩
 | n+1=>⟨di (ct n)⟩
theorem gN:∀ n,ep (ct n)
 | 0=>⟨fun _ _ _ _ _ _ _ _ _ _ _ _ _ _ _ _ _ r h=>(by cases h)⟩
 | n+1=>⟨fun dp hp k0 hk_k0 k1 hk_k1 k2 hk_k2 hn_k0_k1 hn_k0_k2 hn_k1_k2 hz a0 a1 c0 c1 c2 r h=>mz _ (gN n) dp hp k0 hk_k0 k1 hk_k1 k2 hk_k2 hn_k0_k1 hn_k0_k2 hn_k1_k2 hz a0 a1 c0 c1 c2 r h⟩
def eE(c1:Checker)(c2:Int):Option (Bool×Unit×Int):=ev fun n=>(ct n).f_scope_Walk__scope_checker_stmts_1 a0 a1 c0 c1 c2
theorem mN(hk_k0:k0.dp<dp)(k1:Key)(hk_k1:k1.dp<dp)(k2:Key)(hk_k2:k2.dp<dp)(hn_k0_k1:k0≠k1)(hn_k0_k2:k0≠k2)(hn_k1_k2:k1≠k2)(hz:aN dp hp)(a0:(List Stmt))(a1:Int)(c0:Unit)(c1:Checker)(c2:Int)(r:(Bool×Unit×Int))(h:eE a0 a1 c0 c1 c2=some r):eC dp hp k0 k1 k2 a0 a1 c0 c1 c2 r:=by
 obtain ⟨n,hn⟩:=qh h
 exact (gN n).f_scope_Walk__scope_checker_stmts_1 dp hp k0 hk_k0 k1 hk_k1 k2 hk_k2 hn_k0_k1 hn_k0_k2 hn_k1_k2 hz a0 a1 c0 c1 c2 r hn
end
section
variable (dp:Nat)(hp:HP)(k0:Key)(c0:Checker)(a0:(List Stmt))
abbrev wO(dp:Nat)(hp:HP)(k0:Key)(c0:Checker)(a0:(List Stmt))(r:Int):aW×HP:=(.ret (I r),ad hp k0 (aq c0))
def ft:Option Int:=
 (eE a0 1 () c0 0).bind fun (r1:(Bool×Unit×Int))=>
 some r1.2.2
theorem nJ(hk_k0:k0.dp<dp)(hz:aN dp hp)(c0:Checker)(a0:(List Stmt))(r:Int)(h:ft c0 a0=some r):call G Ω0 ⟨dp,false⟩ 96 [(.p k0 0),(.l 88 (a0.map aH))] (ad hp k0 (aq c0))=some (wO dp hp k0 c0 a0 r):=
 aK G96 (du<|.ex fun (r1:(Bool×Unit×Int))=>ao (.v (.b r1.1))<|ao (.h (boxes dp [(2,[(.p k0 0)]),(5,[(I r1.2.2)])] (ad hp k0 (aq c0))))<|ao (.bx [(2,[(.p k0 0)]),(5,[(I r1.2.2)])])<|ao (.h (ad hp k0 (aq c0)))<|bt<|.nil) fun L=>ai ((by simp [AV.aI,AV.aJ,AV.deep,AV.bn,aj hk_k0,Nat.le_of_lt hk_k0]):(((.p k0 0):AV).deep dp&&(([(0,(.p k0 0)),(1,(.l 88 (a0.map aH)))]:List (Nat×AV)).all (fun y=>y.2.aI ⟨dp,2⟩)&&([]:List (Nat×List AV)).all (fun y=>AV.aJ ⟨dp,2⟩ y.2)))=true)<|ai ((by simp [AV.aI,AV.aJ,AV.deep,AV.bn,aj hk_k0,Nat.le_of_lt hk_k0]):(([(1,(.l 88 (a0.map aH))),(2,(.p ⟨dp,2⟩ 0))]:List (Nat×AV)).all (fun y=>y.2.aI ⟨dp,5⟩)&&([(2,[(.p k0 0)])]:List (Nat×List AV)).all (fun y=>AV.aJ ⟨dp,5⟩ y.2))=true)<|ai ff<|ai (rN dp)<|ai tt<|ai (rN dp)<|ai ff<|ai ((by simp [AV.deep,AV.bn,Nat.le_of_lt hk_k0]):([(2,[(.p k0 0)]),(5,[(I 0)])]:List (Nat×List AV)).all (fun y=>AV.bn dp y.2)=true)<|aP h fun r1 ek2 h=>have ek2:call G Ω0 ⟨dp+1,false⟩ 99 [(.l 88 (a0.map aH)),(I 1),(.f 137 [(.p ⟨dp,2⟩ 0),(.p ⟨dp,5⟩ 0)])] (boxes dp [(2,[(.p k0 0)]),(5,[(I 0)])] (ad hp k0 (aq c0)))=some (.ret (.b r1.1),boxes dp [(2,[(.p k0 0)]),(5,[(I r1.2.2)])] (ad hp k0 (aq c0))):=cT (fj (fj (cz (bx1:=[(2,[(.p k0 0)]),(5,[(I 0)])]) (by kernel_rfl) (by kernel_rfl)) (bN (hp1:=ad hp k0 (aq c0)) (Nat.ne_of_lt hk_k0) (bh ..))) (cz (bx1:=[(2,[(.p k0 0)]),(5,[(I 0)])]) (by kernel_rfl) (by kernel_rfl))) (fj (fj (cz (bx1:=[(2,[(.p k0 0)]),(5,[(I 0)])]) (by kernel_rfl) (by kernel_rfl)) (bN (hp1:=ad hp k0 (aq c0)) (Nat.ne_of_lt hk_k0) (bh ..))) (cz (bx1:=[(2,[(.p k0 0)]),(5,[(I r1.2.2)])]) (by kernel_rfl) (by kernel_rfl))) (mN (dp+1) (boxes dp [(2,[(.p k0 0)]),(5,[(I 0)])] (ad hp k0 (aq c0))) ⟨dp,2⟩ (Nat.lt_succ_self dp) k0 (Nat.lt_succ_of_lt hk_k0) ⟨dp,5⟩ (Nat.lt_succ_self dp) (Dx hk_k0) (B7 (by decide)) (aj hk_k0) (az (ab hk_k0 (hz))) a0 1 () c0 0 _ ek2);ai ek2<|ai (cL ek2 (by kernel_rfl) (by kernel_rfl))<|ai (cM ek2 (ab hk_k0 (hz)))<|ai (rN dp)<|L h
end
section
variable (c0:Checker)(a0:Func)(dp:Nat)(hp:HP)(k0:Key)
def jc(v0_15:Nat):Option (Nat⊕(Unit⊕(Unit⊕(Nat×Bool)))):=
 if (v0_15:Int)<(a0.Params.length:Int) then
  (a0.Params[v0_15]?).bind fun (y3:Int)=>
  if y3<0 then
   some (.inr (.inl ()))
  else
   if (c0.p.Vars.length:Int)≤y3 then
    some (.inr (.inl ()))
   else
    if v0_15≤a0.Params.length then
     (ij ((a0.Params.take v0_15).drop 0) y3).bind fun (r8:Bool)=>
     if r8=true then
      some (.inr (.inr (.inl ())))
     else
      if IntKind.i64.wrap ((v0_15:Int)+1)=((v0_15+1:Nat):Int) then
       some (.inl (v0_15+1))
      else none
    else none
 else
  some (.inr (.inr (.inr (v0_15,decide ((v0_15:Int)<(a0.Params.length:Int))))))
abbrev xE(c0:Checker)(a0:Func)(v:Nat):St:=⟨[(0,(.p k0 0)),(3,(.p ⟨dp,3⟩ 0)),(13,(.l 3 (a0.Params.map (I)))),(14,(I (a0.Params.length:Int))),(15,(I (v:Int)))],[(3,(cD a0))],ad hp k0 (aq c0)⟩
abbrev xF(c0:Checker)(a0:Func)(x:(Unit⊕(Unit⊕(Nat×Bool)))):aR×St:=match x with | .inl ()=>(.ret,⟨[(4,(I 5))],[],ad hp k0 (aq c0)⟩) | .inr (.inl ())=>(.ret,⟨[(4,(I 6))],[],ad hp k0 (aq c0)⟩) | .inr (.inr (z1,z2))=>((.ex 0),⟨[(0,(.p k0 0)),(3,(.p ⟨dp,3⟩ 0)),(13,(.l 3 (a0.Params.map (I)))),(14,(I (a0.Params.length:Int))),(15,(I (z1:Int))),(16,(.b z2))],[(3,(cD a0))],ad hp k0 (aq c0)⟩)
theorem wP(hk_k0:k0.dp<dp)(hz:aN dp hp)(c0:Checker)(a0:Func)(v0_15:Nat)(o:Nat⊕(Unit⊕(Unit⊕(Nat×Bool))))(h:jc c0 a0 v0_15=some o):bI ⟨dp,false⟩ N1 (xE dp hp k0 c0 a0) (xF dp hp k0 c0 a0) v0_15 o:=
 bP (.or (bt<|ao (.n v0_15)<|xI fun y3=>.or (bf<|bf<|bf<|bf<|bf<|bf<|bf<|bf<|bt<|bt<|.nil) (F2<|ao (.l (aq c0))<|bt<|ao (.i (c0.p.Vars.length:Int))<|kD<|oN (bt<|ao (.n v0_15)<|ao (.l (((a0.Params.take v0_15).drop 0).map (I)))<|xB fun r8=>oN (ao (.i ((v0_15+1:Nat):Int))<|.nil)))) (bf<|.nil)) fun L=>cb h (fun h2 h=>ai (decide_eq_true h2)<|ai (rI v0_15)<|aP h fun y3 h4 h=>ai (aD (I) h4)<|cb h (fun h5 h=>ai (g0 (decide_eq_true h5))<|ai (g0 (decide_eq_true h5))<|ai (g0 (decide_eq_true h5))<|ai (g0 (decide_eq_true h5))<|ai (g0 (decide_eq_true h5))<|ai (g0 (decide_eq_true h5))<|ai (g0 (decide_eq_true h5))<|ai (g0 (decide_eq_true h5))<|ai (decide_eq_true h5)<|ai tt<|L h) (fun h5 h=>ai (g0 (decide_eq_false h5))<|ai (g0 (decide_eq_false h5))<|ai (g0 (decide_eq_false h5))<|ai (g0 (decide_eq_false h5))<|ai (g0 (decide_eq_false h5))<|ai (g0 (decide_eq_false h5))<|ai (Nat.ne_of_lt hk_k0)<|ai (aG hp k0 (aq c0))<|ai (g0 (decide_eq_false h5))<|ai (aL bz c0.p.Vars)<|tU (decide_eq_false h5)<|cb h (fun h6 h=>ai (decide_eq_true h6)<|L h) (fun h6 h=>ai (decide_eq_false h6)<|ai (rN dp)<|ai (rI v0_15)<|ai ((by decide):3≠0)<|ai ((gi (I) (n:=1) (fun _=>rfl) a0.Params):(a0.Params.map (I)).all (fun e=>e.nc==1)=true)<|ai (Nat.zero_le _:0≤v0_15)<|aS h fun h7 h=>ai ((by rw [List.length_map];exact h7):v0_15≤(a0.Params.map (I)).length)<|ai (yw (I) a0.Params 0 v0_15)<|aQ h (uf ((a0.Params.take v0_15).drop 0) y3) fun r8 h=>a8 h (fun h10 h=>ai h10<|L h) (fun h10 h=>ai h10<|aS h fun w11 h=>ai w11<|L h)))) (fun h2 h=>ai (decide_eq_false h2)<|L h)
abbrev zb(dp:Nat)(hp:HP)(k0:Key)(c0:Checker)(a0:Func)(r:Int):aW×HP:=(.ret (I r),ad hp k0 (aq c0))
def kH:Option Int:=
 if 4<(a0.Params.length:Int) then
  some 2
 else
  (lp (fun v=>jc c0 a0 v) 0).bind fun (x2:(Unit⊕(Unit⊕(Nat×Bool))))=>match x2 with
  | .inl ya_3=>
   some 5
  | .inr (.inl yb_3)=>
   some 6
  | .inr (.inr yc_3)=>
   (ft c0 a0.Body).bind fun (r5:Int)=>
   if (r5 !=0)=true then
    some r5
   else
    (jD a0.Result (c0.p.Vars.length:Int)).bind fun (r8:Int)=>
    some r8
theorem wQ(hk_k0:k0.dp<dp)(hz:aN dp hp)(c0:Checker)(a0:Func)(r:Int)(h:kH c0 a0=some r):call G Ω0 ⟨dp,false⟩ 95 [(.p k0 0),(.a (cD a0))] (ad hp k0 (aq c0))=some (zb dp hp k0 c0 a0 r):=
 aK G95 (bt<|ao (.i (a0.Params.length:Int))<|oN (bt<|ao (.i (a0.Params.length:Int))<|.or (.ex fun (ya_3:Unit)=>ao (.lp .ret ⟨[(4,(I 5))],[],ad hp k0 (aq c0)⟩)<|.nil) (.or (.ex fun (yb_3:Unit)=>ao (.lp .ret ⟨[(4,(I 6))],[],ad hp k0 (aq c0)⟩)<|.nil) (.ex fun (yc_3:(Nat×Bool))=>ao (.lp (.ex 0) ⟨[(0,(.p k0 0)),(3,(.p ⟨dp,3⟩ 0)),(13,(.l 3 (a0.Params.map (I)))),(14,(I (a0.Params.length:Int))),(15,(I (yc_3.1:Int))),(16,(.b yc_3.2))],[(3,(cD a0))],ad hp k0 (aq c0)⟩)<|bt<|xI fun r5=>ao (.h (boxes dp [(3,(cD a0))] (ad hp k0 (aq c0))))<|ao (.bx [(3,(cD a0))])<|ao (.h (ad hp k0 (aq c0)))<|oN (kD<|ao (.l (aq c0))<|ao (.i (c0.p.Vars.length:Int))<|xI fun r8=>.nil))))) fun L=>ai ((by simp [cD,AV.aI,AV.aJ,AV.deep,AV.bn,aj hk_k0,Nat.le_of_lt hk_k0]):(((.a (cD a0)):AV).deep dp&&(([(0,(.p k0 0)),(1,(.a (cD a0)))]:List (Nat×AV)).all (fun y=>y.2.aI ⟨dp,3⟩)&&([]:List (Nat×List AV)).all (fun y=>AV.aJ ⟨dp,3⟩ y.2)))=true)<|ai (rN dp)<|ai (aL (I) a0.Params)<|cb h (fun h1 h=>ai (decide_eq_true h1)<|L h) (fun h1 h=>ai (decide_eq_false h1)<|ai (rN dp)<|ai (aL (I) a0.Params)<|N6 h (ef (wP dp hp k0 hk_k0 hz c0 a0) 0) (fun ya_3 h=>L h) (fun yb_3 h=>L h) (fun yc_3 h=>ai (rN dp)<|eY<|aP h fun r5 ek6 h=>have ek6:=cO hk_k0 (nJ (dp+1) (boxes dp [(3,(cD a0))] (ad hp k0 (aq c0))) k0 (Nat.lt_succ_of_lt hk_k0) (az (ab hk_k0 (hz))) c0 a0.Body _ ek6);ai ek6<|ai (cL ek6 (by kernel_rfl) (by kernel_rfl))<|ai (cM ek6 (ab hk_k0 (hz)))<|a8 h (fun h7 h=>ai h7<|L h) (fun h7 h=>F1 h7<|ai (rN dp)<|oT<|ai (Nat.ne_of_lt hk_k0)<|ai (aG hp k0 (aq c0))<|ai tt<|ai (aL bz c0.p.Vars)<|ai tt<|aQ h (qG a0.Result (c0.p.Vars.length:Int)) fun r8 h=>L h)))
end
section
variable (a0:Program)
def kJ(v0_22:Nat)(v0_18_8:Nat):Option ((Nat×Nat)⊕(Int⊕(Nat×Bool×Nat))):=
 if (v0_22:Int)<(a0.Funcs.length:Int) then
  (a0.Funcs[v0_22]?).bind fun (y8:Func)=>
  (kH (⟨a0,(v0_22:Int)⟩:Checker) y8).bind fun (r10:Int)=>
  if (r10 !=0)=true then
   some (.inr (.inl r10))
  else
   if IntKind.i64.wrap ((v0_22:Int)+1)=((v0_22+1:Nat):Int) then
    some (.inl (v0_22+1,v0_22))
   else none
 else
  some (.inr (.inr (v0_22,decide ((v0_22:Int)<(a0.Funcs.length:Int)),v0_18_8)))
abbrev Cy(v:(Nat×Nat)):St:=⟨[(1,(.p ⟨0,1⟩ 0)),(4,(.p ⟨0,18⟩ 0)),(20,(.l 112 (a0.Funcs.map ba))),(21,(I (a0.Funcs.length:Int))),(22,(I (v.1:Int)))],[(1,(ay a0)),(18,[(I a0.ah.Many),(.l 136 (a0.ah.Grants.map aF)),(.l 3 (a0.Speak.map (I))),(.l 49 (a0.Ins.map au)),(.l 49 (a0.Outs.map au)),(.l 51 (a0.Vars.map bz)),(.l 112 (a0.Funcs.map ba)),(.l 88 (a0.Main.map aH)),(I (v.2:Int))])],H0⟩
abbrev Cz(x:(Int⊕(Nat×Bool×Nat))):aR×St:=match x with | .inl z1=>(.ret,⟨[(2,(I z1))],[],H0⟩) | .inr (z1,z2,z3)=>((.ex 0),⟨[(1,(.p ⟨0,1⟩ 0)),(4,(.p ⟨0,18⟩ 0)),(20,(.l 112 (a0.Funcs.map ba))),(21,(I (a0.Funcs.length:Int))),(22,(I (z1:Int))),(23,(.b z2))],[(1,(ay a0)),(18,[(I a0.ah.Many),(.l 136 (a0.ah.Grants.map aF)),(.l 3 (a0.Speak.map (I))),(.l 49 (a0.Ins.map au)),(.l 49 (a0.Outs.map au)),(.l 51 (a0.Vars.map bz)),(.l 112 (a0.Funcs.map ba)),(.l 88 (a0.Main.map aH)),(I (z3:Int))])],H0⟩)
theorem Bm(v0_22:Nat)(v0_18_8:Nat)(o:(Nat×Nat)⊕(Int⊕(Nat×Bool×Nat)))(h:kJ a0 v0_22 v0_18_8=some o):bI E0 NK (Cy a0) (Cz a0) (v0_22,v0_18_8) o:=
 bP (.or (bt<|ao (.n v0_22)<|.ex fun (y8:Func)=>ao (.v (.a (cD y8)))<|qE<|xI fun r10=>ao (.h (boxes 0 [(1,(ay a0)),(6,(cD y8)),(18,[(I a0.ah.Many),(.l 136 (a0.ah.Grants.map aF)),(.l 3 (a0.Speak.map (I))),(.l 49 (a0.Ins.map au)),(.l 49 (a0.Outs.map au)),(.l 51 (a0.Vars.map bz)),(.l 112 (a0.Funcs.map ba)),(.l 88 (a0.Main.map aH)),(I (v0_22:Int))])] H0))<|ao (.bx [(1,(ay a0)),(6,(cD y8)),(18,[(I a0.ah.Many),(.l 136 (a0.ah.Grants.map aF)),(.l 3 (a0.Speak.map (I))),(.l 49 (a0.Ins.map au)),(.l 49 (a0.Outs.map au)),(.l 51 (a0.Vars.map bz)),(.l 112 (a0.Funcs.map ba)),(.l 88 (a0.Main.map aH)),(I (v0_22:Int))])])<|ao (.h (H0))<|oN (ao (.i ((v0_22+1:Nat):Int))<|.nil)) (bf<|.nil)) fun L=>cb h (fun h7 h=>ai (decide_eq_true h7)<|ai (rI v0_22)<|aP h fun y8 h9 h=>ai (aD ba h9)<|ai tt<|ai ff<|ai (rfl:Z0)<|ai tt<|ai (rfl:Z0)<|ai ff<|ai (rfl:Z0)<|ai tt<|ai (rfl:Z0)<|ai (rfl:Z0)<|ai ff<|ai tt<|aP h fun r10 ek11 h=>have ek11:call G Ω0 ⟨0+1,false⟩ 95 [(.p ⟨0,18⟩ 0),(.a (cD y8))] (boxes 0 [(1,(ay a0)),(6,(cD y8)),(18,[(I a0.ah.Many),(.l 136 (a0.ah.Grants.map aF)),(.l 3 (a0.Speak.map (I))),(.l 49 (a0.Ins.map au)),(.l 49 (a0.Outs.map au)),(.l 51 (a0.Vars.map bz)),(.l 112 (a0.Funcs.map ba)),(.l 88 (a0.Main.map aH)),(I (v0_22:Int))])] H0)=some (.ret (I r10),boxes 0 [(1,(ay a0)),(6,(cD y8)),(18,[(I a0.ah.Many),(.l 136 (a0.ah.Grants.map aF)),(.l 3 (a0.Speak.map (I))),(.l 49 (a0.Ins.map au)),(.l 49 (a0.Outs.map au)),(.l 51 (a0.Vars.map bz)),(.l 112 (a0.Funcs.map ba)),(.l 88 (a0.Main.map aH)),(I (v0_22:Int))])] H0):=cT (cz (bx1:=[(1,(ay a0)),(6,(cD y8)),(18,[(I a0.ah.Many),(.l 136 (a0.ah.Grants.map aF)),(.l 3 (a0.Speak.map (I))),(.l 49 (a0.Ins.map au)),(.l 49 (a0.Outs.map au)),(.l 51 (a0.Vars.map bz)),(.l 112 (a0.Funcs.map ba)),(.l 88 (a0.Main.map aH)),(I (v0_22:Int))])]) (by kernel_rfl) (by kernel_rfl)) (cz (bx1:=[(1,(ay a0)),(6,(cD y8)),(18,[(I a0.ah.Many),(.l 136 (a0.ah.Grants.map aF)),(.l 3 (a0.Speak.map (I))),(.l 49 (a0.Ins.map au)),(.l 49 (a0.Outs.map au)),(.l 51 (a0.Vars.map bz)),(.l 112 (a0.Funcs.map ba)),(.l 88 (a0.Main.map aH)),(I (v0_22:Int))])]) (by kernel_rfl) (by kernel_rfl)) (wQ (0+1) (boxes 0 [(1,(ay a0)),(6,(cD y8)),(18,[(I a0.ah.Many),(.l 136 (a0.ah.Grants.map aF)),(.l 3 (a0.Speak.map (I))),(.l 49 (a0.Ins.map au)),(.l 49 (a0.Outs.map au)),(.l 51 (a0.Vars.map bz)),(.l 112 (a0.Funcs.map ba)),(.l 88 (a0.Main.map aH)),(I (v0_22:Int))])] H0) ⟨0,18⟩ (Nat.lt_succ_self 0) (az (dJ 0)) (⟨a0,(v0_22:Int)⟩:Checker) y8 _ ek11);ai ek11<|ai (cL ek11 (by kernel_rfl) (by kernel_rfl))<|ai (cM ek11 (dJ 0))<|a8 h (fun h12 h=>ai h12<|L h) (fun h12 h=>ai h12<|aS h fun w13 h=>ai w13<|L h)) (fun h7 h=>ai (decide_eq_false h7)<|L h)
abbrev Fc(a0:Program)(r:Int):aW×HP:=(.ret (I r),H0)
def pO:Option Int:=
 (qJ a0).bind fun (r1:Int)=>
 if (r1 !=0)=true then
  some r1
 else
  (rP a0).bind fun (r4:Bool)=>
  if r4=true then
   (lp (fun v=>kJ a0 v.1 v.2) (0,0)).bind fun (x7:(Int⊕(Nat×Bool×Nat)))=>match x7 with
   | .inl ya_8=>
    some ya_8
   | .inr yb_8=>
    (ft (⟨a0,(a0.Funcs.length:Int)⟩:Checker) a0.Main).bind fun (r10:Int)=>
    some r10
  else
   some 2
theorem Bn(r:Int)(h:pO a0=some r):call G Ω0 E0 51 [(.a (ay a0))] H0=some (Fc a0 r):=
 aK G51 (bt<|xI fun r1=>oN (bt<|xB fun r4=>.or (bf<|bt<|bt<|ao (.i (a0.Funcs.length:Int))<|.or (.ex fun (ya_8:Int)=>ao (.lp .ret ⟨[(2,(I ya_8))],[],H0⟩)<|.nil) (.ex fun (yb_8:(Nat×Bool×Nat))=>ao (.lp (.ex 0) ⟨[(1,(.p ⟨0,1⟩ 0)),(4,(.p ⟨0,18⟩ 0)),(20,(.l 112 (a0.Funcs.map ba))),(21,(I (a0.Funcs.length:Int))),(22,(I (yb_8.1:Int))),(23,(.b yb_8.2.1))],[(1,(ay a0)),(18,[(I a0.ah.Many),(.l 136 (a0.ah.Grants.map aF)),(.l 3 (a0.Speak.map (I))),(.l 49 (a0.Ins.map au)),(.l 49 (a0.Outs.map au)),(.l 51 (a0.Vars.map bz)),(.l 112 (a0.Funcs.map ba)),(.l 88 (a0.Main.map aH)),(I (yb_8.2.2:Int))])],H0⟩)<|bt<|ao (.i (a0.Funcs.length:Int))<|dE<|xI fun r10=>ao (.h (boxes 0 [(1,(ay a0)),(18,[(I a0.ah.Many),(.l 136 (a0.ah.Grants.map aF)),(.l 3 (a0.Speak.map (I))),(.l 49 (a0.Ins.map au)),(.l 49 (a0.Outs.map au)),(.l 51 (a0.Vars.map bz)),(.l 112 (a0.Funcs.map ba)),(.l 88 (a0.Main.map aH)),(I (a0.Funcs.length:Int))])] H0))<|ao (.bx [(1,(ay a0)),(18,[(I a0.ah.Many),(.l 136 (a0.ah.Grants.map aF)),(.l 3 (a0.Speak.map (I))),(.l 49 (a0.Ins.map au)),(.l 49 (a0.Outs.map au)),(.l 51 (a0.Vars.map bz)),(.l 112 (a0.Funcs.map ba)),(.l 88 (a0.Main.map aH)),(I (a0.Funcs.length:Int))])])<|ao (.h (H0))<|.nil)) (bt<|.nil))) fun L=>ai tt<|ai (rfl:Z0)<|aQ h (Cw a0) fun r1 h=>a8 h (fun h3 h=>ai h3<|L h) (fun h3 h=>sZ h3<|aQ h (DV a0) fun r4 h=>a8 h (fun h6 h=>ai (congrArg not h6)<|ai (rfl:Z0)<|ai tt<|ai (rfl:Z0)<|ai (aL ba a0.Funcs)<|cN h (ef (fun v=>Bm a0 v.1 v.2) (0,0)) (fun ya_8 h=>L h) (fun yb_8 h=>ai (rfl:Z0)<|ai (aL ba a0.Funcs)<|ai ff<|ai (rfl:Z0)<|ai tt<|ai (rfl:Z0)<|ai (rfl:Z0)<|ai ff<|ai tt<|aP h fun r10 ek11 h=>have ek11:call G Ω0 ⟨0+1,false⟩ 96 [(.p ⟨0,18⟩ 0),(.l 88 (a0.Main.map aH))] (boxes 0 [(1,(ay a0)),(18,[(I a0.ah.Many),(.l 136 (a0.ah.Grants.map aF)),(.l 3 (a0.Speak.map (I))),(.l 49 (a0.Ins.map au)),(.l 49 (a0.Outs.map au)),(.l 51 (a0.Vars.map bz)),(.l 112 (a0.Funcs.map ba)),(.l 88 (a0.Main.map aH)),(I (a0.Funcs.length:Int))])] H0)=some (.ret (I r10),boxes 0 [(1,(ay a0)),(18,[(I a0.ah.Many),(.l 136 (a0.ah.Grants.map aF)),(.l 3 (a0.Speak.map (I))),(.l 49 (a0.Ins.map au)),(.l 49 (a0.Outs.map au)),(.l 51 (a0.Vars.map bz)),(.l 112 (a0.Funcs.map ba)),(.l 88 (a0.Main.map aH)),(I (a0.Funcs.length:Int))])] H0):=cT (cz (bx1:=[(1,(ay a0)),(18,[(I a0.ah.Many),(.l 136 (a0.ah.Grants.map aF)),(.l 3 (a0.Speak.map (I))),(.l 49 (a0.Ins.map au)),(.l 49 (a0.Outs.map au)),(.l 51 (a0.Vars.map bz)),(.l 112 (a0.Funcs.map ba)),(.l 88 (a0.Main.map aH)),(I (a0.Funcs.length:Int))])]) (by kernel_rfl) (by kernel_rfl)) (cz (bx1:=[(1,(ay a0)),(18,[(I a0.ah.Many),(.l 136 (a0.ah.Grants.map aF)),(.l 3 (a0.Speak.map (I))),(.l 49 (a0.Ins.map au)),(.l 49 (a0.Outs.map au)),(.l 51 (a0.Vars.map bz)),(.l 112 (a0.Funcs.map ba)),(.l 88 (a0.Main.map aH)),(I (a0.Funcs.length:Int))])]) (by kernel_rfl) (by kernel_rfl)) (nJ (0+1) (boxes 0 [(1,(ay a0)),(18,[(I a0.ah.Many),(.l 136 (a0.ah.Grants.map aF)),(.l 3 (a0.Speak.map (I))),(.l 49 (a0.Ins.map au)),(.l 49 (a0.Outs.map au)),(.l 51 (a0.Vars.map bz)),(.l 112 (a0.Funcs.map ba)),(.l 88 (a0.Main.map aH)),(I (a0.Funcs.length:Int))])] H0) ⟨0,18⟩ (Nat.lt_succ_self 0) (az (dJ 0)) (⟨a0,(a0.Funcs.length:Int)⟩:Checker) a0.Main _ ek11);ai ek11<|ai (cL ek11 (by kernel_rfl) (by kernel_rfl))<|ai (cM ek11 (dJ 0))<|L h)) (fun h6 h=>ai (congrArg not h6)<|L h))
end
section
variable (a0:(List Int))
abbrev Fe(a0:(List Int))(r:Bool):aW×HP:=(.ret (.b r),H0)
def sS:Option Bool:=
 some (decide (100<(a0.length:Int)))
theorem Bo(r:Bool)(h:sS a0=some r):call G Ω0 E0 53 [(.l 3 (a0.map (I)))] H0=some (Fe a0 r):=
 aK G53 (ao (.i (a0.length:Int))<|.nil) fun L=>ai (aL (I) a0)<|L h
end
section
variable (a0:(List (List Int)))
def jo(v0_8:Nat):Option (Nat⊕(Nat⊕(Nat×Bool))):=
 if (v0_8:Int)<(a0.length:Int) then
  (a0[v0_8]?).bind fun (y2:(List Int))=>
  (sS y2).bind fun (r4:Bool)=>
  if r4=true then
   some (.inr (.inl v0_8))
  else
   if IntKind.i64.wrap ((v0_8:Int)+1)=((v0_8+1:Nat):Int) then
    some (.inl (v0_8+1))
   else none
 else
  some (.inr (.inr (v0_8,decide ((v0_8:Int)<(a0.length:Int)))))
abbrev px(v:Nat):St:=⟨[(0,(.l 25 (a0.map (bD 3 (I))))),(1,(.f 53 [])),(7,(I (a0.length:Int))),(8,(I (v:Int)))],[],H0⟩
abbrev py(x:(Nat⊕(Nat×Bool))):aR×St:=match x with | .inl z1=>(.ret,⟨[(4,(I (z1:Int)))],[],H0⟩) | .inr (z1,z2)=>((.ex 0),⟨[(0,(.l 25 (a0.map (bD 3 (I))))),(1,(.f 53 [])),(7,(I (a0.length:Int))),(8,(I (z1:Int))),(9,(.b z2))],[],H0⟩)
theorem o7(v0_8:Nat)(o:Nat⊕(Nat⊕(Nat×Bool)))(h:jo a0 v0_8=some o):bI E0 I5 (px a0) (py a0) v0_8 o:=
 bP (.or (bt<|ao (.n v0_8)<|.ex fun (y2:(List Int))=>ao (.v (.l 3 (y2.map (I))))<|xB fun r4=>oN (ao (.i ((v0_8+1:Nat):Int))<|.nil)) (bf<|.nil)) fun L=>cb h (fun h1 h=>ai (decide_eq_true h1)<|ai (rI v0_8)<|aP h fun y2 h3 h=>ai (aD (bD 3 (I)) h3)<|aQ h (Bo y2) fun r4 h=>a8 h (fun h6 h=>ai h6<|L h) (fun h6 h=>ai h6<|aS h fun w7 h=>ai w7<|L h)) (fun h1 h=>ai (decide_eq_false h1)<|L h)
abbrev qv(a0:(List (List Int)))(r:Int):aW×HP:=(.ret (I r),H0)
def km:Option Int:=
 (lp (fun v=>jo a0 v) 0).bind fun (x1:(Nat⊕(Nat×Bool)))=>match x1 with
 | .inl ya_2=>
  some (ya_2:Int)
 | .inr yb_2=>
  some (-1)
theorem o8(r:Int)(h:km a0=some r):call G Ω0 E0 97 [(.l 25 (a0.map (bD 3 (I)))),(.f 53 [])] H0=some (qv a0 r):=
 aK YP (ao (.i (a0.length:Int))<|.or (.ex fun (ya_2:Nat)=>ao (.lp .ret ⟨[(4,(I (ya_2:Int)))],[],H0⟩)<|.nil) (.ex fun (yb_2:(Nat×Bool))=>ao (.lp (.ex 0) ⟨[(0,(.l 25 (a0.map (bD 3 (I))))),(1,(.f 53 [])),(7,(I (a0.length:Int))),(8,(I (yb_2.1:Int))),(9,(.b yb_2.2))],[],H0⟩)<|.nil)) fun L=>ai (aL (bD 3 (I)) a0)<|cN h (ef (o7 a0) 0) (fun ya_2 h=>L h) (fun yb_2 h=>L h)
abbrev o9(a0:(List (List Int)))(r:Bool):aW×HP:=(.ret (.b r),H0)
def eO:Option Bool:=
 (km a0).bind fun (r1:Int)=>
 some (decide (0≤r1))
theorem nh(r:Bool)(h:eO a0=some r):call G Ω0 E0 52 [(.l 25 (a0.map (bD 3 (I)))),(.f 53 [])] H0=some (o9 a0 r):=
 aK YN (xI fun r1=>.nil) fun L=>aQ h (o8 a0) fun r1 h=>L h
end
section
variable (a0:Int)
abbrev CB(a0:Int)(r:Bool):aW×HP:=(.ret (.b r),H0)
def mX:Option Bool:=
 (qI a0).bind fun (r1:Bool)=>
 some (!r1)
theorem zc(r:Bool)(h:mX a0=some r):call G Ω0 E0 56 [(I a0)] H0=some (CB a0 r):=
 aK G56 (xB fun r1=>.nil) fun L=>aQ h (Co a0) fun r1 h=>L h
end
section
variable (a0:(List Int))
def ik(v0_8:Nat):Option (Nat⊕(Nat⊕(Nat×Bool))):=
 if (v0_8:Int)<(a0.length:Int) then
  (a0[v0_8]?).bind fun (y2:Int)=>
  (mX y2).bind fun (r4:Bool)=>
  if r4=true then
   some (.inr (.inl v0_8))
  else
   if IntKind.i64.wrap ((v0_8:Int)+1)=((v0_8+1:Nat):Int) then
    some (.inl (v0_8+1))
   else none
 else
  some (.inr (.inr (v0_8,decide ((v0_8:Int)<(a0.length:Int)))))
abbrev ov(v:Nat):St:=⟨[(0,(.l 3 (a0.map (I)))),(1,(.f 56 [])),(7,(I (a0.length:Int))),(8,(I (v:Int)))],[],H0⟩
abbrev ox(x:(Nat⊕(Nat×Bool))):aR×St:=match x with | .inl z1=>(.ret,⟨[(4,(I (z1:Int)))],[],H0⟩) | .inr (z1,z2)=>((.ex 0),⟨[(0,(.l 3 (a0.map (I)))),(1,(.f 56 [])),(7,(I (a0.length:Int))),(8,(I (z1:Int))),(9,(.b z2))],[],H0⟩)
theorem nK(v0_8:Nat)(o:Nat⊕(Nat⊕(Nat×Bool)))(h:ik a0 v0_8=some o):bI E0 z8 (ov a0) (ox a0) v0_8 o:=
 bP (.or (bt<|ao (.n v0_8)<|xI fun y2=>xB fun r4=>oN (ao (.i ((v0_8+1:Nat):Int))<|.nil)) (bf<|.nil)) fun L=>cb h (fun h1 h=>ai (decide_eq_true h1)<|ai (rI v0_8)<|aP h fun y2 h3 h=>ai (aD (I) h3)<|aQ h (zc y2) fun r4 h=>a8 h (fun h6 h=>ai h6<|L h) (fun h6 h=>ai h6<|aS h fun w7 h=>ai w7<|L h)) (fun h1 h=>ai (decide_eq_false h1)<|L h)
abbrev pz(a0:(List Int))(r:Int):aW×HP:=(.ret (I r),H0)
def jq:Option Int:=
 (lp (fun v=>ik a0 v) 0).bind fun (x1:(Nat⊕(Nat×Bool)))=>match x1 with
 | .inl ya_2=>
  some (ya_2:Int)
 | .inr yb_2=>
  some (-1)
theorem nL(r:Int)(h:jq a0=some r):call G Ω0 E0 98 [(.l 3 (a0.map (I))),(.f 56 [])] H0=some (pz a0 r):=
 aK Ko (ao (.i (a0.length:Int))<|.or (.ex fun (ya_2:Nat)=>ao (.lp .ret ⟨[(4,(I (ya_2:Int)))],[],H0⟩)<|.nil) (.ex fun (yb_2:(Nat×Bool))=>ao (.lp (.ex 0) ⟨[(0,(.l 3 (a0.map (I)))),(1,(.f 56 [])),(7,(I (a0.length:Int))),(8,(I (yb_2.1:Int))),(9,(.b yb_2.2))],[],H0⟩)<|.nil)) fun L=>ai (aL (I) a0)<|cN h (ef (nK a0) 0) (fun ya_2 h=>L h) (fun yb_2 h=>L h)
abbrev nM(a0:(List Int))(r:Bool):aW×HP:=(.ret (.b r),H0)
def er:Option Bool:=
 (jq a0).bind fun (r1:Int)=>
 some (decide (0≤r1))
theorem mA(r:Bool)(h:er a0=some r):call G Ω0 E0 55 [(.l 3 (a0.map (I))),(.f 56 [])] H0=some (nM a0 r):=
 aK Kn (xI fun r1=>.nil) fun L=>aQ h (nL a0) fun r1 h=>L h
abbrev Ff(a0:(List Int))(r:Bool):aW×HP:=(.ret (.b r),H0)
def pP:Option Bool:=
 (er a0).bind fun (r1:Bool)=>
 some r1
theorem Bp(r:Bool)(h:pP a0=some r):call G Ω0 E0 54 [(.l 3 (a0.map (I)))] H0=some (Ff a0 r):=
 aK G54 (xB fun r1=>.nil) fun L=>aQ h (mA a0) fun r1 h=>L h
end
section
variable (a0:(List (List Int)))
def jr(v0_8:Nat):Option (Nat⊕(Nat⊕(Nat×Bool))):=
 if (v0_8:Int)<(a0.length:Int) then
  (a0[v0_8]?).bind fun (y2:(List Int))=>
  (pP y2).bind fun (r4:Bool)=>
  if r4=true then
   some (.inr (.inl v0_8))
  else
   if IntKind.i64.wrap ((v0_8:Int)+1)=((v0_8+1:Nat):Int) then
    some (.inl (v0_8+1))
   else none
 else
  some (.inr (.inr (v0_8,decide ((v0_8:Int)<(a0.length:Int)))))
abbrev pA(v:Nat):St:=⟨[(0,(.l 25 (a0.map (bD 3 (I))))),(1,(.f 54 [])),(7,(I (a0.length:Int))),(8,(I (v:Int)))],[],H0⟩
abbrev pB(x:(Nat⊕(Nat×Bool))):aR×St:=match x with | .inl z1=>(.ret,⟨[(4,(I (z1:Int)))],[],H0⟩) | .inr (z1,z2)=>((.ex 0),⟨[(0,(.l 25 (a0.map (bD 3 (I))))),(1,(.f 54 [])),(7,(I (a0.length:Int))),(8,(I (z1:Int))),(9,(.b z2))],[],H0⟩)
theorem pa(v0_8:Nat)(o:Nat⊕(Nat⊕(Nat×Bool)))(h:jr a0 v0_8=some o):bI E0 I5 (pA a0) (pB a0) v0_8 o:=
 bP (.or (bt<|ao (.n v0_8)<|.ex fun (y2:(List Int))=>ao (.v (.l 3 (y2.map (I))))<|xB fun r4=>oN (ao (.i ((v0_8+1:Nat):Int))<|.nil)) (bf<|.nil)) fun L=>cb h (fun h1 h=>ai (decide_eq_true h1)<|ai (rI v0_8)<|aP h fun y2 h3 h=>ai (aD (bD 3 (I)) h3)<|aQ h (Bp y2) fun r4 h=>a8 h (fun h6 h=>ai h6<|L h) (fun h6 h=>ai h6<|aS h fun w7 h=>ai w7<|L h)) (fun h1 h=>ai (decide_eq_false h1)<|L h)
abbrev qw(a0:(List (List Int)))(r:Int):aW×HP:=(.ret (I r),H0)
def kn:Option Int:=
 (lp (fun v=>jr a0 v) 0).bind fun (x1:(Nat⊕(Nat×Bool)))=>match x1 with
 | .inl ya_2=>
  some (ya_2:Int)
 | .inr yb_2=>
  some (-1)
theorem pb(r:Int)(h:kn a0=some r):call G Ω0 E0 97 [(.l 25 (a0.map (bD 3 (I)))),(.f 54 [])] H0=some (qw a0 r):=
 aK YP (ao (.i (a0.length:Int))<|.or (.ex fun (ya_2:Nat)=>ao (.lp .ret ⟨[(4,(I (ya_2:Int)))],[],H0⟩)<|.nil) (.ex fun (yb_2:(Nat×Bool))=>ao (.lp (.ex 0) ⟨[(0,(.l 25 (a0.map (bD 3 (I))))),(1,(.f 54 [])),(7,(I (a0.length:Int))),(8,(I (yb_2.1:Int))),(9,(.b yb_2.2))],[],H0⟩)<|.nil)) fun L=>ai (aL (bD 3 (I)) a0)<|cN h (ef (pa a0) 0) (fun ya_2 h=>L h) (fun yb_2 h=>L h)
abbrev pc(a0:(List (List Int)))(r:Bool):aW×HP:=(.ret (.b r),H0)
def eP:Option Bool:=
 (kn a0).bind fun (r1:Int)=>
 some (decide (0≤r1))
theorem nj(r:Bool)(h:eP a0=some r):call G Ω0 E0 52 [(.l 25 (a0.map (bD 3 (I)))),(.f 54 [])] H0=some (pc a0 r):=
 aK YN (xI fun r1=>.nil) fun L=>aQ h (pb a0) fun r1 h=>L h
end
section
variable (a0:Program)(a1:(List (List Int)))(a2:Int)
abbrev HE(a0:Program)(a1:(List (List Int)))(a2:Int)(r:Int):aW×HP:=(.ret (I r),H0)
def pC:Option Int:=
 (pO a0).bind fun (r1:Int)=>
 if (r1 !=0)=true then
  some r1
 else
  if ((a1.length:Int) !=(a0.Ins.length:Int))=true then
   some 1
  else
   (eO a1).bind fun (r5:Bool)=>
   if r5=true then
    some 2
   else
    (eP a1).bind fun (r8:Bool)=>
    if r8=true then
     some 3
    else
     if a2<0 then
      some 3
     else
      if 2000<a2 then
       some 3
      else
       some 0
theorem wR(r:Int)(h:pC a0 a1 a2=some r):call G Ω0 E0 19 [(.a (ay a0)),(.l 25 (a1.map (bD 3 (I)))),(I a2)] H0=some (HE a0 a1 a2 r):=
 aK G19 (bt<|xI fun r1=>oN (ao (.i (a1.length:Int))<|bt<|ao (.i (a0.Ins.length:Int))<|oN (xB fun r5=>oN (xB fun r8=>.or (bf<|bf<|bt<|bf<|bf<|bt<|bt<|.nil) (bt<|bt<|bf<|.or (bf<|bf<|bt<|bt<|.nil) (bt<|bt<|bf<|oN (.nil))))))) fun L=>ai tt<|ai (rfl:Z0)<|aQ h (Bn a0) fun r1 h=>a8 h (fun h3 h=>ai h3<|L h) (fun h3 h=>ai h3<|ai (aL (bD 3 (I)) a1)<|ai (rfl:Z0)<|ai (aL au a0.Ins)<|a8 h (fun h4 h=>ai h4<|L h) (fun h4 h=>ai h4<|aQ h (nh a1) fun r5 h=>a8 h (fun h7 h=>ai h7<|L h) (fun h7 h=>ai h7<|aQ h (nj a1) fun r8 h=>a8 h (fun h10 h=>ai (g0 h10)<|ai (g0 h10)<|ai h10<|ai ht<|ai ht<|ai tt<|ai tt<|L h) (fun h10 h=>ai (g0 h10)<|ai (g0 h10)<|ai h10<|cb h (fun h11 h=>ai (g0 (decide_eq_true h11))<|ai (g0 (decide_eq_true h11))<|ai (decide_eq_true h11)<|ai tt<|L h) (fun h11 h=>ai (g0 (decide_eq_false h11))<|ai (g0 (decide_eq_false h11))<|ai (decide_eq_false h11)<|cb h (fun h12 h=>ai (decide_eq_true h12)<|L h) (fun h12 h=>ai (decide_eq_false h12)<|L h))))))
end
section
variable (dp:Nat)(hp:HP)(k0:Key)
abbrev Gh(dp:Nat)(hp:HP)(k0:Key)(a0:Stmt)(a1:Int)(c0:Int)(r:(Bool×Int)):aW×HP:=(.ret (.b r.1),ad hp k0 [(I r.2)])
def um(a0:Stmt)(a1:Int)(c0:Int):Option (Bool×Int):=
 if IntKind.i64.wrap (c0+1)=c0+1 then
  some (true,(c0+1))
 else none
theorem CC(hk_k0:k0.dp<dp)(hz:aN dp hp)(a0:Stmt)(a1:Int)(c0:Int)(r:(Bool×Int))(h:um a0 a1 c0=some r):call G Ω0 ⟨dp,false⟩ 100 [(.a (af a0)),(I a1),(.p k0 0)] (ad hp k0 [(I c0)])=some (Gh dp hp k0 a0 a1 c0 r):=
 aK Zi (bf<|ao (.l [(I c0)])<|ao (.i (c0+1))<|bf<|ao (.l [(I c0)])<|bf<|ao (.h (ad hp k0 [(I (c0+1))]))<|.nil) fun L=>ai ((by simp [af,AV.aI,AV.aJ,AV.deep,AV.bn,aj hk_k0,Nat.le_of_lt hk_k0]):(((.a (af a0)):AV).deep dp&&(([(0,(.a (af a0))),(1,(I a1)),(2,(.p k0 0))]:List (Nat×AV)).all (fun y=>y.2.aI ⟨dp,3⟩)&&([]:List (Nat×List AV)).all (fun y=>AV.aJ ⟨dp,3⟩ y.2)))=true)<|ai (Nat.ne_of_lt hk_k0)<|ai (aG hp k0 [(I c0)])<|aS h fun w1 h=>ai w1<|ai ff<|ai (Nat.ne_of_lt hk_k0)<|ai (aG hp k0 [(I c0)])<|ai tt<|ai (Nat.ne_of_lt hk_k0)<|ai (bh hp k0 [(I c0)] [(I (c0+1))])<|L h
end
section
variable (dp:Nat)(hp:HP)(k0:Key)(a0:(List Stmt))(a1:Int)(c0:Int)
abbrev uo(dp:Nat)(hp:HP)(k0:Key)(a0:(List Stmt))(a1:Int)(c0:Int)(r:(Bool×Int)):aW×HP:=(.ret (.b r.1),ad hp k0 [(I r.2)])
abbrev jM(r:(Bool×Int)):Prop:=call G Ω0 ⟨dp,false⟩ 99 [(.l 88 (a0.map aH)),(I a1),(.f 100 [(.p k0 0)])] (ad hp k0 [(I c0)])=some (uo dp hp k0 a0 a1 c0 r)
end
structure jN where
 f_scope_Walk__run_Many_1:(List Stmt)→Int→Int→Option (Bool×Int)
structure jd(R:jN):Prop where
 f_scope_Walk__run_Many_1:∀ (dp:Nat)(hp:HP)(k0:Key)(hk_k0:k0.dp<dp)(hz:aN dp hp)(a0:(List Stmt))(a1:Int)(c0:Int)(r:(Bool×Int)),R.f_scope_Walk__run_Many_1 a0 a1 c0=some r→jM dp hp k0 a0 a1 c0 r
section
variable (R:jN)(a0:(List Stmt))(a1:Int)(dp:Nat)(hp:HP)(k0:Key)(c0:Int)
def fe(v0_11:Nat)(v0_k0_0:Int):Option ((Nat×Int)⊕(Int⊕(Nat×Bool×Int))):=
 if (v0_11:Int)<(a0.length:Int) then
  (a0[v0_11]?).bind fun (y2:Stmt)=>
  (um y2 a1 v0_k0_0).bind fun (r4:(Bool×Int))=>
  if r4.1=true then
   if IntKind.i64.wrap (a1+1)=a1+1 then
    (R.f_scope_Walk__run_Many_1 y2.Then (a1+1) r4.2).bind fun (r8:(Bool×Int))=>
    if r8.1=true then
     (R.f_scope_Walk__run_Many_1 y2.Else (a1+1) r8.2).bind fun (r11:(Bool×Int))=>
     if r11.1=true then
      if IntKind.i64.wrap ((v0_11:Int)+1)=((v0_11+1:Nat):Int) then
       some (.inl (v0_11+1,r11.2))
      else none
     else
      some (.inr (.inl r11.2))
    else
     some (.inr (.inl r8.2))
   else none
  else
   some (.inr (.inl r4.2))
 else
  some (.inr (.inr (v0_11,decide ((v0_11:Int)<(a0.length:Int)),v0_k0_0)))
abbrev sT(dp:Nat)(hp:HP)(k0:Key)(a0:(List Stmt))(a1:Int)(v:(Nat×Int)):St:=⟨[(1,(I a1)),(2,(.f 100 [(.p k0 0)])),(9,(.l 88 (a0.map aH))),(10,(I (a0.length:Int))),(11,(I (v.1:Int)))],[],ad hp k0 [(I v.2)]⟩
abbrev sU(dp:Nat)(hp:HP)(k0:Key)(a0:(List Stmt))(a1:Int)(x:(Int⊕(Nat×Bool×Int))):aR×St:=match x with | .inl z1=>(.ret,⟨[(6,(.b false))],[],ad hp k0 [(I z1)]⟩) | .inr (z1,z2,z3)=>((.ex 0),⟨[(1,(I a1)),(2,(.f 100 [(.p k0 0)])),(9,(.l 88 (a0.map aH))),(10,(I (a0.length:Int))),(11,(I (z1:Int))),(12,(.b z2))],[],ad hp k0 [(I z3)]⟩)
theorem ss(hR:jd R)(dp:Nat)(hp:HP)(k0:Key)(hk_k0:k0.dp<dp)(hz:aN dp hp)(a0:(List Stmt))(a1:Int)(v0_11:Nat)(v0_k0_0:Int)(o:(Nat×Int)⊕(Int⊕(Nat×Bool×Int)))(h:fe R a0 a1 v0_11 v0_k0_0=some o):bI ⟨dp,false⟩ Fv (sT dp hp k0 a0 a1) (sU dp hp k0 a0 a1) (v0_11,v0_k0_0) o:=
 bP (.or (bt<|ao (.n v0_11)<|.ex fun (y2:Stmt)=>ao (.v (.a (af y2)))<|dE<|.ex fun (r4:(Bool×Int))=>ao (.v (.b r4.1))<|ao (.h (boxes dp [(8,(af y2))] (ad hp k0 [(I r4.2)])))<|ao (.bx [(8,(af y2))])<|ao (.h (ad hp k0 [(I r4.2)]))<|.or (qE<|ao (.i (a1+1))<|du<|.ex fun (r8:(Bool×Int))=>ao (.v (.b r8.1))<|ao (.h (boxes dp [(8,(af y2))] (ad hp k0 [(I r8.2)])))<|ao (.bx [(8,(af y2))])<|ao (.h (ad hp k0 [(I r8.2)]))<|kD<|.or (qE<|ao (.i (a1+1))<|du<|.ex fun (r11:(Bool×Int))=>ao (.v (.b r11.1))<|ao (.h (boxes dp [(8,(af y2))] (ad hp k0 [(I r11.2)])))<|ao (.bx [(8,(af y2))])<|ao (.h (ad hp k0 [(I r11.2)]))<|kD<|.or (bf<|ao (.i ((v0_11+1:Nat):Int))<|.nil) (bt<|.nil)) (MN<|.nil)) (MO<|.nil)) (bf<|.nil)) fun L=>cb h (fun h1 h=>ai (decide_eq_true h1)<|ai (rI v0_11)<|aP h fun y2 h3 h=>ai (iy aH h3 (kY _))<|ai ((by simp [af,AV.aI,AV.aJ,AV.deep,AV.bn,aj hk_k0,Nat.le_of_lt hk_k0]):(([(14,(.a (af y2))),(13,(.e (.a (af y2)) 0)),(1,(I a1)),(2,(.f 100 [(.p k0 0)])),(9,(.l 88 (a0.map aH))),(10,(I (a0.length:Int))),(11,(I (v0_11:Int)))]:List (Nat×AV)).all (fun y=>y.2.aI ⟨dp,8⟩)&&([]:List (Nat×List AV)).all (fun y=>AV.aJ ⟨dp,8⟩ y.2))=true)<|ai ff<|ai (rN dp)<|ai tt<|ai (rN dp)<|ai (rN dp)<|eY<|aP h fun r4 ek5 h=>have ek5:=cO hk_k0 (CC (dp+1) (boxes dp [(8,(af y2))] (ad hp k0 [(I v0_k0_0)])) k0 (Nat.lt_succ_of_lt hk_k0) (az (ab hk_k0 (hz))) y2 a1 v0_k0_0 _ ek5);ai ek5<|ai (cL ek5 (by kernel_rfl) (by kernel_rfl))<|ai (cM ek5 (ab hk_k0 (hz)))<|a8 h (fun h6 h=>sL (congrArg not h6)<|ai (rN dp)<|sL (congrArg not h6)<|aS h fun w7 h=>ai w7<|A7 (congrArg not h6)<|aP h fun r8 ek9 h=>have ek9:=cO hk_k0 (hR.f_scope_Walk__run_Many_1 (dp+1) (boxes dp [(8,(af y2))] (ad hp k0 [(I r4.2)])) k0 (Nat.lt_succ_of_lt hk_k0) (az (ab hk_k0 (hz))) y2.Then (a1+1) r4.2 _ ek9);ai ek9<|ai (cL ek9 (by kernel_rfl) (by kernel_rfl))<|ai (cM ek9 (ab hk_k0 (hz)))<|tU (congrArg not h6)<|a8 h (fun h10 h=>sL (congrArg not h10)<|ai (rN dp)<|sL (congrArg not h10)<|ai w7<|A7 (congrArg not h10)<|aP h fun r11 ek12 h=>have ek12:=cO hk_k0 (hR.f_scope_Walk__run_Many_1 (dp+1) (boxes dp [(8,(af y2))] (ad hp k0 [(I r8.2)])) k0 (Nat.lt_succ_of_lt hk_k0) (az (ab hk_k0 (hz))) y2.Else (a1+1) r8.2 _ ek12);ai ek12<|ai (cL ek12 (by kernel_rfl) (by kernel_rfl))<|ai (cM ek12 (ab hk_k0 (hz)))<|tU (congrArg not h10)<|a8 h (fun h13 h=>ai (congrArg not h13)<|aS h fun w14 h=>ai w14<|L h) (fun h13 h=>ai (congrArg not h13)<|L h)) (fun h10 h=>MH (congrArg not h10)<|L h)) (fun h6 h=>MI (congrArg not h6)<|L h)) (fun h1 h=>ai (decide_eq_false h1)<|L h)
def fA:Option (Bool×Int):=
 (lp (fun v=>fe R a0 a1 v.1 v.2) (0,c0)).bind fun (x1:(Int⊕(Nat×Bool×Int)))=>match x1 with
 | .inl ya_2=>
  some (false,ya_2)
 | .inr yb_2=>
  some (true,yb_2.2.2)
theorem rr(hR:jd R)(dp:Nat)(hp:HP)(k0:Key)(hk_k0:k0.dp<dp)(hz:aN dp hp)(a0:(List Stmt))(a1:Int)(c0:Int)(r:(Bool×Int))(h:fA R a0 a1 c0=some r):jM dp hp k0 a0 a1 c0 r:=
 aK Sw (ao (.i (a0.length:Int))<|.or (.ex fun (ya_2:Int)=>ao (.lp .ret ⟨[(6,(.b false))],[],ad hp k0 [(I ya_2)]⟩)<|.nil) (.ex fun (yb_2:(Nat×Bool×Int))=>ao (.lp (.ex 0) ⟨[(1,(I a1)),(2,(.f 100 [(.p k0 0)])),(9,(.l 88 (a0.map aH))),(10,(I (a0.length:Int))),(11,(I (yb_2.1:Int))),(12,(.b yb_2.2.1))],[],ad hp k0 [(I yb_2.2.2)]⟩)<|.nil)) fun L=>ai (aL aH a0)<|cN h (ef (fun v=>ss R hR dp hp k0 hk_k0 hz a0 a1 v.1 v.2) (0,c0)) (fun ya_2 h=>L h) (fun yb_2 h=>L h)
def dA:Nat→jN
 | 0=>⟨fun z0 z1 z2=>none⟩
 | n+1=>⟨fA (dA n)⟩
theorem mY:∀ n,jd (dA n)
 | 0=>⟨fun _ _ _ _ _ _ _ _ r h=>(by cases h)⟩
 | n+1=>⟨fun dp hp k0 hk_k0 hz a0 a1 c0 r h=>rr _ (mY n) dp hp k0 hk_k0 hz a0 a1 c0 r h⟩
def jO:Option (Bool×Int):=ev fun n=>(dA n).f_scope_Walk__run_Many_1 a0 a1 c0
theorem su(hk_k0:k0.dp<dp)(hz:aN dp hp)(a0:(List Stmt))(a1:Int)(c0:Int)(r:(Bool×Int))(h:jO a0 a1 c0=some r):jM dp hp k0 a0 a1 c0 r:=by
 obtain ⟨n,hn⟩:=qh h
 exact (mY n).f_scope_Walk__run_Many_1 dp hp k0 hk_k0 hz a0 a1 c0 r hn
abbrev Jr(a0:(List Stmt))(r:Int):aW×HP:=(.ret (I r),H0)
def je:Option Int:=
 (jO a0 1 0).bind fun (r1:(Bool×Int))=>
 some r1.2
theorem kv(r:Int)(h:je a0=some r):call G Ω0 E0 58 [(.l 88 (a0.map aH))] H0=some (Jr a0 r):=
 aK G58 (du<|.ex fun (r1:(Bool×Int))=>ao (.v (.b r1.1))<|ao (.h (boxes 0 [(3,[(I r1.2)])] H0))<|ao (.bx [(3,[(I r1.2)])])<|ao (.h (H0))<|bt<|.nil) fun L=>ai tt<|ai ff<|ai (rfl:Z0)<|ai tt<|ai (rfl:Z0)<|ai ff<|ai tt<|aP h fun r1 ek2 h=>have ek2:call G Ω0 ⟨0+1,false⟩ 99 [(.l 88 (a0.map aH)),(I 1),(.f 100 [(.p ⟨0,3⟩ 0)])] (boxes 0 [(3,[(I 0)])] H0)=some (.ret (.b r1.1),boxes 0 [(3,[(I r1.2)])] H0):=cT (cz (bx1:=[(3,[(I 0)])]) (by kernel_rfl) (by kernel_rfl)) (cz (bx1:=[(3,[(I r1.2)])]) (by kernel_rfl) (by kernel_rfl)) (su (0+1) (boxes 0 [(3,[(I 0)])] H0) ⟨0,3⟩ (Nat.lt_succ_self 0) (az (dJ 0)) a0 1 0 _ ek2);ai ek2<|ai (cL ek2 (by kernel_rfl) (by kernel_rfl))<|ai (cM ek2 (dJ 0))<|ai (rfl:Z0)<|L h
end
section
variable (a0:Program)(a1:(List (List Int)))(a2:Int)(dp:Nat)(hp:HP)(k0:Key)(c0:Runner)
def rQ(a1:(List (List Int)))(a2:Int)(v0_8:Int)(v0_35:Nat)(v0_15_10:(List Int)):Option ((Int×Nat×(List Int))⊕(Int×Nat×Bool×(List Int))):=
 if (v0_35:Int)<(a0.Funcs.length:Int) then
  (a0.Funcs[v0_35]?).bind fun (y4:Func)=>
  if v0_15_10.length + [v0_8].length≤1000000000 then
   (je y4.Body).bind fun (r7:Int)=>
   if IntKind.i64.wrap (v0_8+r7)=v0_8+r7 then
    if IntKind.i64.wrap ((v0_35:Int)+1)=((v0_35+1:Nat):Int) then
     some (.inl (v0_8+r7,v0_35+1,v0_15_10++[v0_8]))
    else none
   else none
  else none
 else
  some (.inr (v0_8,v0_35,decide ((v0_35:Int)<(a0.Funcs.length:Int)),v0_15_10))
abbrev HF(a0:Program)(a1:(List (List Int)))(a2:Int)(v:(Int×Nat×(List Int))):St:=⟨[(7,(.p ⟨dp,15⟩ 0)),(8,(I v.1)),(33,(.l 112 (a0.Funcs.map ba))),(34,(I (a0.Funcs.length:Int))),(35,(I (v.2.1:Int)))],[(15,[(I a0.ah.Many),(.l 136 (a0.ah.Grants.map aF)),(.l 3 (a0.Speak.map (I))),(.l 49 (a0.Ins.map au)),(.l 49 (a0.Outs.map au)),(.l 51 (a0.Vars.map bz)),(.l 112 (a0.Funcs.map ba)),(.l 88 (a0.Main.map aH)),(.l 25 (a1.map (bD 3 (I)))),(I a2),(.o 3 (v.2.2.map (I))),(.o 106 (([]:List Event).map aO)),(.o 3 ((List.replicate a0.Vars.length 0).map (I))),(.o 3 ((List.replicate a0.Ins.length 0).map (I))),(I 0),(I 0),(I 0)])],hp⟩
abbrev HG(a0:Program)(a1:(List (List Int)))(a2:Int)(x:(Int×Nat×Bool×(List Int))):aR×St:=((.ex 0),⟨[(7,(.p ⟨dp,15⟩ 0)),(8,(I x.1)),(33,(.l 112 (a0.Funcs.map ba))),(34,(I (a0.Funcs.length:Int))),(35,(I (x.2.1:Int))),(36,(.b x.2.2.1))],[(15,[(I a0.ah.Many),(.l 136 (a0.ah.Grants.map aF)),(.l 3 (a0.Speak.map (I))),(.l 49 (a0.Ins.map au)),(.l 49 (a0.Outs.map au)),(.l 51 (a0.Vars.map bz)),(.l 112 (a0.Funcs.map ba)),(.l 88 (a0.Main.map aH)),(.l 25 (a1.map (bD 3 (I)))),(I a2),(.o 3 (x.2.2.2.map (I))),(.o 106 (([]:List Event).map aO)),(.o 3 ((List.replicate a0.Vars.length 0).map (I))),(.o 3 ((List.replicate a0.Ins.length 0).map (I))),(I 0),(I 0),(I 0)])],hp⟩)
theorem Gi(hz:aN dp hp)(a0:Program)(a1:(List (List Int)))(a2:Int)(v0_8:Int)(v0_35:Nat)(v0_15_10:(List Int))(o:(Int×Nat×(List Int))⊕(Int×Nat×Bool×(List Int)))(h:rQ a0 a1 a2 v0_8 v0_35 v0_15_10=some o):bI ⟨dp,false⟩ NF (HF dp hp a0 a1 a2) (HG dp hp a0 a1 a2) (v0_8,v0_35,v0_15_10) o:=
 bP (.or (bt<|ao (.n v0_35)<|.ex fun (y4:Func)=>ao (.v (.a (cD y4)))<|dE<|ao (.l ([v0_8].map (I)))<|dE<|ao (.l ((v0_15_10++[v0_8]).map (I)))<|dE<|xI fun r7=>ao (.i (v0_8+r7))<|ao (.i ((v0_35+1:Nat):Int))<|.nil) (bf<|.nil)) fun L=>cb h (fun h3 h=>ai (decide_eq_true h3)<|ai (rI v0_35)<|aP h fun y4 h5 h=>ai (aD ba h5)<|ai ((by simp [cD,AV.aI,AV.aJ,AV.deep,AV.bn]):(([(38,(.a (cD y4))),(37,(.e (.a (cD y4)) 0)),(7,(.p ⟨dp,15⟩ 0)),(8,(I v0_8)),(33,(.l 112 (a0.Funcs.map ba))),(34,(I (a0.Funcs.length:Int))),(35,(I (v0_35:Int)))]:List (Nat×AV)).all (fun y=>y.2.aI ⟨dp,10⟩)&&([(15,[(I a0.ah.Many),(.l 136 (a0.ah.Grants.map aF)),(.l 3 (a0.Speak.map (I))),(.l 49 (a0.Ins.map au)),(.l 49 (a0.Outs.map au)),(.l 51 (a0.Vars.map bz)),(.l 112 (a0.Funcs.map ba)),(.l 88 (a0.Main.map aH)),(.l 25 (a1.map (bD 3 (I)))),(I a2),(.o 3 (v0_15_10.map (I))),(.o 106 (([]:List Event).map aO)),(.o 3 ((List.replicate a0.Vars.length 0).map (I))),(.o 3 ((List.replicate a0.Ins.length 0).map (I))),(I 0),(I 0),(I 0)])]:List (Nat×List AV)).all (fun y=>AV.aJ ⟨dp,10⟩ y.2))=true)<|ai ff<|ai (rN dp)<|ai tt<|ai (rN dp)<|ai (rN dp)<|ai (rfl:[(I v0_8)]=[v0_8].map (I))<|ai ff<|ai (rN dp)<|ai (rN dp)<|ai (rN dp)<|aS h fun h6 h=>ai ((gi (I) (n:=1) (fun _=>rfl) [v0_8]):([v0_8].map (I)).all (fun e=>e.nc==1)=true)<|ai ((lh h6 (by decide)):((v0_15_10.map (I)).length+([v0_8].map (I)).length)*8≤140737488355328)<|ai ((lj h6):(v0_15_10.map (I)).length+([v0_8].map (I)).length≤maxLen)<|ai (List.map_append.symm:v0_15_10.map (I)++[v0_8].map (I)=(v0_15_10++[v0_8]).map (I))<|ai ff<|ai (rN dp)<|ai (rN dp)<|ai (rN dp)<|aQ h (kv y4.Body) fun r7 h=>aS h fun w9 h=>ai w9<|aS h fun w10 h=>ai w10<|L h) (fun h3 h=>ai (decide_eq_false h3)<|L h)
abbrev Kz(dp:Nat)(hp:HP)(a0:Program)(a1:(List (List Int)))(a2:Int)(r:Runner):aW×HP:=(.new (aa r),hp)
def sw:Option Runner:=
 if a0.Vars.length≤1000000000 then
  if a0.Ins.length≤1000000000 then
   (lp (fun v=>rQ a0 a1 a2 v.1 v.2.1 v.2.2) (0,0,([]:List Int))).bind fun (x3:(Int×Nat×Bool×(List Int)))=>
   if x3.2.2.2.length + [x3.1].length≤1000000000 then
    some (⟨a0,a1,a2,x3.2.2.2++[x3.1],(⟨([]:List Event),List.replicate a0.Vars.length 0,List.replicate a0.Ins.length 0,0,0,0⟩:RunT)⟩:Runner)
   else none
  else none
 else none
theorem zd(hz:aN dp hp)(a0:Program)(a1:(List (List Int)))(a2:Int)(r:Runner)(h:sw a0 a1 a2=some r):call G Ω0 ⟨dp,false⟩ 20 [(.a (ay a0)),(.l 25 (a1.map (bD 3 (I)))),(I a2)] hp=some (Kz dp hp a0 a1 a2 r):=
 Ie G20 (SQ<|ao (.i (a0.Vars.length:Int))<|ao (.n a0.Vars.length)<|ao (.l ((List.replicate a0.Vars.length 0).map (I)))<|bt<|ao (.i (a0.Ins.length:Int))<|ao (.n a0.Ins.length)<|ao (.l ((List.replicate a0.Ins.length 0).map (I)))<|qE<|ao (.i (a0.Funcs.length:Int))<|.ex fun (x3:(Int×Nat×Bool×(List Int)))=>ao (.lp (.ex 0) ⟨[(7,(.p ⟨dp,15⟩ 0)),(8,(I x3.1)),(33,(.l 112 (a0.Funcs.map ba))),(34,(I (a0.Funcs.length:Int))),(35,(I (x3.2.1:Int))),(36,(.b x3.2.2.1))],[(15,[(I a0.ah.Many),(.l 136 (a0.ah.Grants.map aF)),(.l 3 (a0.Speak.map (I))),(.l 49 (a0.Ins.map au)),(.l 49 (a0.Outs.map au)),(.l 51 (a0.Vars.map bz)),(.l 112 (a0.Funcs.map ba)),(.l 88 (a0.Main.map aH)),(.l 25 (a1.map (bD 3 (I)))),(I a2),(.o 3 (x3.2.2.2.map (I))),(.o 106 (([]:List Event).map aO)),(.o 3 ((List.replicate a0.Vars.length 0).map (I))),(.o 3 ((List.replicate a0.Ins.length 0).map (I))),(I 0),(I 0),(I 0)])],hp⟩)<|bt<|ao (.l ([x3.1].map (I)))<|dE<|ao (.l ((x3.2.2.2++[x3.1]).map (I)))<|du<|.nil) fun L=>ai tt<|ai (rN dp)<|ai ((by simp [ay,AV.aI,AV.aJ,AV.deep,AV.bn]):(((.a [(I a0.ah.Many),(.l 136 (a0.ah.Grants.map aF)),(.l 3 (a0.Speak.map (I))),(.l 49 (a0.Ins.map au)),(.l 49 (a0.Outs.map au)),(.l 51 (a0.Vars.map bz)),(.l 112 (a0.Funcs.map ba)),(.l 88 (a0.Main.map aH)),(.l 25 (a1.map (bD 3 (I)))),(I a2),.n,.n,.n,.n,(I 0),(I 0),(I 0)]):AV).deep dp&&(([(14,(.a [(I a0.ah.Many),(.l 136 (a0.ah.Grants.map aF)),(.l 3 (a0.Speak.map (I))),(.l 49 (a0.Ins.map au)),(.l 49 (a0.Outs.map au)),(.l 51 (a0.Vars.map bz)),(.l 112 (a0.Funcs.map ba)),(.l 88 (a0.Main.map aH)),(.l 25 (a1.map (bD 3 (I)))),(I a2),.n,.n,.n,.n,(I 0),(I 0),(I 0)])),(13,(I a2)),(12,(.l 25 (a1.map (bD 3 (I))))),(11,(.a (ay a0))),(1,(.l 25 (a1.map (bD 3 (I))))),(2,(I a2)),(3,(.p ⟨dp,3⟩ 0))]:List (Nat×AV)).all (fun y=>y.2.aI ⟨dp,15⟩)&&([(3,(ay a0))]:List (Nat×List AV)).all (fun y=>AV.aJ ⟨dp,15⟩ y.2)))=true)<|ai ff<|ai (rN dp)<|ai (rN dp)<|ai ff<|ai (rN dp)<|ai (rN dp)<|ai ff<|ai (rN dp)<|ai (rN dp)<|ai ff<|ai (rN dp)<|ai (rN dp)<|ai ((by simp [ay,eG,aC,AV.aI,AV.aJ,AV.bO]):(([21,25]:List Nat).all (eG dp (⟨[(3,(.p ⟨dp,3⟩ 0)),(7,(.p ⟨dp,15⟩ 0))],[(3,(ay a0)),(15,[(I a0.ah.Many),(.l 136 (a0.ah.Grants.map aF)),(.l 3 (a0.Speak.map (I))),(.l 49 (a0.Ins.map au)),(.l 49 (a0.Outs.map au)),(.l 51 (a0.Vars.map bz)),(.l 112 (a0.Funcs.map ba)),(.l 88 (a0.Main.map aH)),(.l 25 (a1.map (bD 3 (I)))),(I a2),(.o 3 (([]:List Int).map (I))),(.o 106 (([]:List Event).map aO)),(.o 3 (([]:List Int).map (I))),(.o 3 (([]:List Int).map (I))),(I 0),(I 0),(I 0)])],H0⟩:St))&&true)=true)<|ai ((by simp [a6,okB,cu,AV.aI,AV.aJ,AV.bO]):(a6 dp [21,25] (.p ⟨dp,15⟩ 0)&&okB dp [15] (.p ⟨dp,15⟩ 0))=true)<|ai ((by simp [a6,okB,cu,AV.aI,AV.aJ,AV.bO]):(a6 dp [21,25] (.p ⟨dp,15⟩ 0)&&okB dp [15] (.p ⟨dp,15⟩ 0))=true)<|ai ((by simp [a6,okB,cu,AV.aI,AV.aJ,AV.bO]):(a6 dp [21,25] (.p ⟨dp,3⟩ 5)&&okB dp [15] (.p ⟨dp,3⟩ 5))=true)<|ai (rN dp)<|ai tt<|ai (aL bz a0.Vars)<|ai tt<|ai (rfl:(a0.Vars.length:Int)=(a0.Vars.length:Int))<|aS h fun h1 h=>ai ((B4 h1 (by decide)):a0.Vars.length*8≤140737488355328)<|ai ((B5 h1):a0.Vars.length≤maxLen)<|ai ((List.map_replicate ..).symm:List.replicate a0.Vars.length (I 0)=(List.replicate a0.Vars.length 0).map (I))<|ai tt<|ai ((by simp [a6,okB,cu,AV.aI,AV.aJ,AV.bO]):(a6 dp [21,25] (.p ⟨dp,3⟩ 3)&&okB dp [15] (.p ⟨dp,3⟩ 3))=true)<|ai (rN dp)<|ai tt<|ai (aL au a0.Ins)<|ai tt<|ai (rfl:(a0.Ins.length:Int)=(a0.Ins.length:Int))<|aS h fun h2 h=>ai ((B4 h2 (by decide)):a0.Ins.length*8≤140737488355328)<|ai ((B5 h2):a0.Ins.length≤maxLen)<|ai ((List.map_replicate ..).symm:List.replicate a0.Ins.length (I 0)=(List.replicate a0.Ins.length 0).map (I))<|ai tt<|ai ((by simp [a6,okB,cu,AV.aI,AV.aJ,AV.bO]):(a6 dp [25] (.p ⟨dp,15⟩ 0)&&okB dp [15] (.p ⟨dp,15⟩ 0))=true)<|ai ((by simp [a6,okB,cu,AV.aI,AV.aJ,AV.bO]):(a6 dp [25] (.p ⟨dp,15⟩ 11)&&okB dp [15] (.p ⟨dp,15⟩ 11))=true)<|ai ((by simp [a6,okB,cu,AV.aI,AV.aJ,AV.bO]):(a6 dp [25] (.p ⟨dp,15⟩ 12)&&okB dp [15] (.p ⟨dp,15⟩ 12))=true)<|ai (rN dp)<|ai ff<|ai (rN dp)<|ai (rN dp)<|ai tt<|ai ff<|ai (rN dp)<|ai (rN dp)<|ai (rN dp)<|ai (aL ba a0.Funcs)<|aQ h (ef (fun v=>Gi dp hp hz a0 a1 a2 v.1 v.2.1 v.2.2) (0,0,([]:List Int))) fun x3 h=>ai (rN dp)<|ai (rfl:[(I x3.1)]=[x3.1].map (I))<|ai ff<|ai (rN dp)<|ai (rN dp)<|ai (rN dp)<|aS h fun h5 h=>ai ((gi (I) (n:=1) (fun _=>rfl) [x3.1]):([x3.1].map (I)).all (fun e=>e.nc==1)=true)<|ai ((lh h5 (by decide)):((x3.2.2.2.map (I)).length+([x3.1].map (I)).length)*8≤140737488355328)<|ai ((lj h5):(x3.2.2.2.map (I)).length+([x3.1].map (I)).length≤maxLen)<|ai (List.map_append.symm:x3.2.2.2.map (I)++[x3.1].map (I)=(x3.2.2.2++[x3.1]).map (I))<|ai ff<|ai (rN dp)<|ai (rN dp)<|ai (rN dp)<|ai tt<|L h
abbrev AF(dp:Nat)(hp:HP)(k0:Key)(c0:Runner)(r:(Bool×Runner)):aW×HP:=(.ret (.b r.1),ad hp k0 (aa r.2))
def eQ:Option (Bool×Runner):=
 if (c0.aA.Steps==c0.fuel)=true then
  some (false,(⟨c0.p,c0.ins,c0.fuel,c0.first,(⟨c0.aA.Events,c0.aA.Vars,c0.aA.Taken,c0.aA.Steps,2,c0.aA.Stop⟩:RunT)⟩:Runner))
 else
  if IntKind.i64.wrap (c0.aA.Steps+1)=c0.aA.Steps+1 then
   some (true,(⟨c0.p,c0.ins,c0.fuel,c0.first,(⟨c0.aA.Events,c0.aA.Vars,c0.aA.Taken,c0.aA.Steps+1,c0.aA.End,c0.aA.Stop⟩:RunT)⟩:Runner))
  else none
theorem jf(hk_k0:k0.dp<dp)(hz:aN dp hp)(c0:Runner)(r:(Bool×Runner))(h:eQ c0=some r):call G Ω0 ⟨dp,false⟩ 102 [(.p k0 0)] (ad hp k0 (aa c0))=some (AF dp hp k0 c0 r):=
 aK Zj (bf<|ao (.l (aa c0))<|bf<|ao (.l (aa c0))<|.or (kD<|ao (.l (aa c0))<|bf<|ao (.h (ad hp k0 ((aa c0).set 15 (I 2))))<|.nil) (bf<|bf<|ao (.l (aa c0))<|ao (.i (c0.aA.Steps+1))<|bf<|ao (.l (aa c0))<|bf<|ao (.h (ad hp k0 ((aa c0).set 14 (I (c0.aA.Steps+1)))))<|.nil)) fun L=>oT<|ai (Nat.ne_of_lt hk_k0)<|ai (aG hp k0 (aa c0))<|lz<|ai (Nat.ne_of_lt hk_k0)<|ai (aG hp k0 (aa c0))<|ai tt<|a8 h (fun h1 h=>ai h1<|ai ff<|ai (Nat.ne_of_lt hk_k0)<|ai (aG hp k0 (aa c0))<|ai tt<|ai (Nat.ne_of_lt hk_k0)<|ai (bh hp k0 (aa c0) ((aa c0).set 15 (I 2)))<|L h) (fun h1 h=>ai h1<|ai (Nat.ne_of_lt hk_k0)<|ai (aG hp k0 (aa c0))<|aS h fun w2 h=>ai w2<|ai ff<|ai (Nat.ne_of_lt hk_k0)<|ai (aG hp k0 (aa c0))<|ai tt<|ai (Nat.ne_of_lt hk_k0)<|ai (bh hp k0 (aa c0) ((aa c0).set 14 (I (c0.aA.Steps+1))))<|L h)
end
section
variable (c0:Runner)(a0:Stmt)(dp:Nat)(hp:HP)(k0:Key)
def jg(v0_4:(List Int))(v0_12:Nat):Option (((List Int)×Nat)⊕((List Int)×Nat×Bool)):=
 if (v0_12:Int)<(a0.Args.length:Int) then
  (a0.Args[v0_12]?).bind fun (y2:aE)=>
  (k9 y2 c0.aA.Vars).bind fun (r4:Int)=>
  if v0_4.length + [r4].length≤1000000000 then
   if IntKind.i64.wrap ((v0_12:Int)+1)=((v0_12+1:Nat):Int) then
    some (.inl (v0_4++[r4],v0_12+1))
   else none
  else none
 else
  some (.inr (v0_4,v0_12,decide ((v0_12:Int)<(a0.Args.length:Int))))
abbrev xG(c0:Runner)(a0:Stmt)(v:((List Int)×Nat)):St:=⟨[(0,(.p k0 0)),(3,(.p ⟨dp,3⟩ 0)),(4,(.o 3 (v.1.map (I)))),(10,(.l 86 (a0.Args.map aT))),(11,(I (a0.Args.length:Int))),(12,(I (v.2:Int)))],[(3,(af a0))],ad hp k0 (aa c0)⟩
abbrev xH(c0:Runner)(a0:Stmt)(x:((List Int)×Nat×Bool)):aR×St:=((.ex 0),⟨[(0,(.p k0 0)),(3,(.p ⟨dp,3⟩ 0)),(4,(.o 3 (x.1.map (I)))),(10,(.l 86 (a0.Args.map aT))),(11,(I (a0.Args.length:Int))),(12,(I (x.2.1:Int))),(13,(.b x.2.2))],[(3,(af a0))],ad hp k0 (aa c0)⟩)
theorem wS(hk_k0:k0.dp<dp)(hz:aN dp hp)(c0:Runner)(a0:Stmt)(v0_4:(List Int))(v0_12:Nat)(o:((List Int)×Nat)⊕((List Int)×Nat×Bool))(h:jg c0 a0 v0_4 v0_12=some o):bI ⟨dp,false⟩ Kf (xG dp hp k0 c0 a0) (xH dp hp k0 c0 a0) (v0_4,v0_12) o:=
 bP (.or (bt<|ao (.n v0_12)<|.ex fun (y2:aE)=>ao (.v (.a (bF y2)))<|Dy<|ao (.l (aa c0))<|bf<|ao (.l (aa c0))<|xI fun r4=>ao (.l ([r4].map (I)))<|ao (.l ((v0_4++[r4]).map (I)))<|ao (.i ((v0_12+1:Nat):Int))<|.nil) (bf<|.nil)) fun L=>cb h (fun h1 h=>ai (decide_eq_true h1)<|ai (rI v0_12)<|aP h fun y2 h3 h=>ai (iy aT h3 (eS _))<|ai ((by simp [bF,af,AV.aI,AV.aJ,AV.deep,AV.bn,aj hk_k0,Nat.le_of_lt hk_k0]):(([(15,(.a (bF y2))),(14,(.e (.a (bF y2)) 0)),(0,(.p k0 0)),(3,(.p ⟨dp,3⟩ 0)),(4,(.o 3 (v0_4.map (I)))),(10,(.l 86 (a0.Args.map aT))),(11,(I (a0.Args.length:Int))),(12,(I (v0_12:Int)))]:List (Nat×AV)).all (fun y=>y.2.aI ⟨dp,6⟩)&&([(3,(af a0))]:List (Nat×List AV)).all (fun y=>AV.aJ ⟨dp,6⟩ y.2))=true)<|ai ff<|ai (rN dp)<|ai tt<|ai (rN dp)<|ai ((by simp [bF,af,eG,aC,AV.aI,AV.aJ,AV.bO,aj hk_k0]):(([24]:List Nat).all (eG dp (⟨[(0,(.p k0 0)),(3,(.p ⟨dp,3⟩ 0)),(4,(.o 3 (v0_4.map (I)))),(6,(.p ⟨dp,6⟩ 0)),(10,(.l 86 (a0.Args.map aT))),(11,(I (a0.Args.length:Int))),(12,(I (v0_12:Int)))],[(3,(af a0)),(6,(bF y2))],H0⟩:St))&&true)=true)<|ai tt<|ai (rN dp)<|ai tt<|ai (YU hk_k0 [24])<|ai (YU hk_k0 [24])<|ai ((by simp [a6,okB,cu,AV.aI,AV.aJ,AV.bO,aj hk_k0]):(a6 dp [24] (.p k0 11)&&okB dp [] (.p k0 11))=true)<|ai ((by simp [a6,okB,cu,AV.aI,AV.aJ,AV.bO,aj hk_k0]):(a6 dp [24] (.p k0 12)&&okB dp [] (.p k0 12))=true)<|ai (Nat.ne_of_lt hk_k0)<|ai (aG hp k0 (aa c0))<|ai ((by simp [a6,okB,cu,AV.aI,AV.aJ,AV.bO,aj hk_k0]):(a6 dp [24] (.r (.c k0 12))&&okB dp [] (.r (.c k0 12)))=true)<|ai (Nat.ne_of_lt hk_k0)<|ai (aG hp k0 (aa c0))<|aQ h (oc y2 c0.aA.Vars) fun r4 h=>sf<|ai (rfl:[(I r4)]=[r4].map (I))<|ai tt<|ai ff<|aS h fun h6 h=>ai ((gi (I) (n:=1) (fun _=>rfl) [r4]):([r4].map (I)).all (fun e=>e.nc==1)=true)<|ai ((lh h6 (by decide)):((v0_4.map (I)).length+([r4].map (I)).length)*8≤140737488355328)<|ai ((lj h6):(v0_4.map (I)).length+([r4].map (I)).length≤maxLen)<|ai (List.map_append.symm:v0_4.map (I)++[r4].map (I)=(v0_4++[r4]).map (I))<|aS h fun w7 h=>ai w7<|L h) (fun h1 h=>ai (decide_eq_false h1)<|L h)
def jh(c0:Runner)(x1:((List Int)×Nat×Bool))(y5:Func)(v1_38:Nat)(v1_k0_12:(List Int)):Option ((Nat×(List Int))⊕(Nat×Bool×(List Int))):=
 if (v1_38:Int)<(y5.Params.length:Int) then
  (y5.Params[v1_38]?).bind fun (y8:Int)=>
  (x1.1[v1_38]?).bind fun (y10:Int)=>
  (cX y8).bind fun (j12:Nat)=>
  (v1_k0_12[j12]?).bind fun (y14:Int)=>
  if IntKind.i64.wrap ((v1_38:Int)+1)=((v1_38+1:Nat):Int) then
   some (.inl (v1_38+1,v1_k0_12.set j12 y10))
  else none
 else
  some (.inr (v1_38,decide ((v1_38:Int)<(y5.Params.length:Int)),v1_k0_12))
abbrev xJ(dp:Nat)(hp:HP)(k0:Key)(c0:Runner)(x1:((List Int)×Nat×Bool))(y5:Func)(v:(Nat×(List Int))):St:=⟨[(0,(.p k0 0)),(4,(.o 3 (x1.1.map (I)))),(36,(.l 3 (y5.Params.map (I)))),(37,(I (y5.Params.length:Int))),(38,(I (v.1:Int)))],[],ad hp k0 ((bA c0).set 12 (.o 3 (v.2.map (I))))⟩
abbrev xK(dp:Nat)(hp:HP)(k0:Key)(c0:Runner)(x1:((List Int)×Nat×Bool))(y5:Func)(x:(Nat×Bool×(List Int))):aR×St:=((.ex 2),⟨[(0,(.p k0 0)),(4,(.o 3 (x1.1.map (I)))),(36,(.l 3 (y5.Params.map (I)))),(37,(I (y5.Params.length:Int))),(38,(I (x.1:Int))),(39,(.b x.2.1))],[],ad hp k0 ((bA c0).set 12 (.o 3 (x.2.2.map (I))))⟩)
theorem wT(hk_k0:k0.dp<dp)(hz:aN dp hp)(c0:Runner)(x1:((List Int)×Nat×Bool))(y5:Func)(v1_38:Nat)(v1_k0_12:(List Int))(o:(Nat×(List Int))⊕(Nat×Bool×(List Int)))(h:jh c0 x1 y5 v1_38 v1_k0_12=some o):bI ⟨dp,false⟩ Kg (xJ dp hp k0 c0 x1 y5) (xK dp hp k0 c0 x1 y5) (v1_38,v1_k0_12) o:=
 bP (.or (bt<|ao (.n v1_38)<|xI fun y8=>bf<|ao (.l ((bA c0).set 12 (.o 3 (v1_k0_12.map (I)))))<|ao (.n v1_38)<|xI fun y10=>ao (.v (I y10))<|xN fun j12=>bf<|ao (.l ((bA c0).set 12 (.o 3 (v1_k0_12.map (I)))))<|xI fun y14=>bf<|ao (.l ((bA c0).set 12 (.o 3 (v1_k0_12.map (I)))))<|ao (.v (I y14))<|ao (.l ((v1_k0_12.set j12 y10).map (I)))<|bf<|ao (.l ((bA c0).set 12 (.o 3 (v1_k0_12.map (I)))))<|bf<|ao (.h (ad hp k0 ((bA c0).set 12 (.o 3 ((v1_k0_12.set j12 y10).map (I))))))<|ao (.i ((v1_38+1:Nat):Int))<|.nil) (bf<|.nil)) fun L=>cb h (fun h7 h=>ai (decide_eq_true h7)<|ai (rI v1_38)<|aP h fun y8 h9 h=>ai (aD (I) h9)<|oT<|ai (Nat.ne_of_lt hk_k0)<|ai (aG hp k0 ((bA c0).set 12 (.o 3 (v1_k0_12.map (I)))))<|lz<|ai (rI v1_38)<|aP h fun y10 h11 h=>ai (aD (I) h11)<|ai tt<|ai (aD (I) h11)<|ai tt<|eN h fun j12 h13 h=>ai h13<|ai (Nat.ne_of_lt hk_k0)<|ai (aG hp k0 ((bA c0).set 12 (.o 3 (v1_k0_12.map (I)))))<|aP h fun y14 h15 h=>ai (aD (I) h15)<|ai ff<|ai (Nat.ne_of_lt hk_k0)<|ai (aG hp k0 ((bA c0).set 12 (.o 3 (v1_k0_12.map (I)))))<|ai (aD (I) h15)<|ai (map_set .. : (v1_k0_12.map (I)).set j12 (I y10)=(v1_k0_12.set j12 y10).map (I))<|ai (Nat.ne_of_lt hk_k0)<|ai (aG hp k0 ((bA c0).set 12 (.o 3 (v1_k0_12.map (I)))))<|ai (Nat.ne_of_lt hk_k0)<|ai (bh hp k0 ((bA c0).set 12 (.o 3 (v1_k0_12.map (I)))) ((bA c0).set 12 (.o 3 ((v1_k0_12.set j12 y10).map (I)))))<|aS h fun w16 h=>ai w16<|L h) (fun h7 h=>ai (decide_eq_false h7)<|L h)
abbrev ze(dp:Nat)(hp:HP)(k0:Key)(c0:Runner)(a0:Stmt)(r:Runner):aW×HP:=(.ret (.tp []),ad hp k0 (aa r))
def gO:Option Runner:=
 (lp (fun v=>jg c0 a0 v.1 v.2) (([]:List Int),0)).bind fun (x1:((List Int)×Nat×Bool))=>
 (cX a0.Other).bind fun (j3:Nat)=>
 (c0.p.Funcs[j3]?).bind fun (y5:Func)=>
 (lp (fun v=>jh c0 x1 y5 v.1 v.2) (0,c0.aA.Vars)).bind fun (x7:(Nat×Bool×(List Int)))=>
 some (⟨c0.p,c0.ins,c0.fuel,c0.first,(⟨c0.aA.Events,x7.2.2,c0.aA.Taken,c0.aA.Steps,c0.aA.End,c0.aA.Stop⟩:RunT)⟩:Runner)
theorem qm(hk_k0:k0.dp<dp)(hz:aN dp hp)(c0:Runner)(a0:Stmt)(r:Runner)(h:gO c0 a0=some r):call G Ω0 ⟨dp,false⟩ 142 [(.p k0 0),(.a (af a0))] (ad hp k0 (aa c0))=some (ze dp hp k0 c0 a0 r):=
 aK ZG (bt<|ao (.i (a0.Args.length:Int))<|.ex fun (x1:((List Int)×Nat×Bool))=>ao (.lp (.ex 0) ⟨[(0,(.p k0 0)),(3,(.p ⟨dp,3⟩ 0)),(4,(.o 3 (x1.1.map (I)))),(10,(.l 86 (a0.Args.map aT))),(11,(I (a0.Args.length:Int))),(12,(I (x1.2.1:Int))),(13,(.b x1.2.2))],[(3,(af a0))],ad hp k0 (aa c0)⟩)<|bf<|ao (.l (aa c0))<|bt<|xN fun j3=>.ex fun (y5:Func)=>ao (.v (.a (cD y5)))<|ao (.i (y5.Params.length:Int))<|.ex fun (x7:(Nat×Bool×(List Int)))=>ao (.lp (.ex 2) ⟨[(0,(.p k0 0)),(4,(.o 3 (x1.1.map (I)))),(36,(.l 3 (y5.Params.map (I)))),(37,(I (y5.Params.length:Int))),(38,(I (x7.1:Int))),(39,(.b x7.2.1))],[],ad hp k0 ((bA c0).set 12 (.o 3 (x7.2.2.map (I))))⟩)<|.nil) fun L=>ai ((by simp [af,AV.aI,AV.aJ,AV.deep,AV.bn,aj hk_k0,Nat.le_of_lt hk_k0]):(((.a (af a0)):AV).deep dp&&(([(0,(.p k0 0)),(1,(.a (af a0)))]:List (Nat×AV)).all (fun y=>y.2.aI ⟨dp,3⟩)&&([]:List (Nat×List AV)).all (fun y=>AV.aJ ⟨dp,3⟩ y.2)))=true)<|ai (rN dp)<|ai (aL aT a0.Args)<|aQ h (ef (fun v=>wS dp hp k0 hk_k0 hz c0 a0 v.1 v.2) (([]:List Int),0)) fun x1 h=>oT<|ai (Nat.ne_of_lt hk_k0)<|ai (aG hp k0 (aa c0))<|cF<|ai (rN dp)<|ai tt<|eN h fun j3 h4 h=>ai h4<|aP h fun y5 h6 h=>ai (aD ba h6)<|sf<|ai (aL (I) y5.Params)<|cF<|aQ h (ef (fun v=>wT dp hp k0 hk_k0 hz c0 x1 y5 v.1 v.2) (0,c0.aA.Vars)) fun x7 h=>L h
end
end
end Go.Proofs.YtdpjofmmokaobaaGreat.A
