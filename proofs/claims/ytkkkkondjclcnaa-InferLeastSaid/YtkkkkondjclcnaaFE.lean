/- Functions of the program as plain functions, by program. -/
import Derived.Test.YtkkkkondjclcnaaFEP1
set_option maxRecDepth 100000
set_option linter.unusedSectionVars false
set_option linter.unusedVariables false
set_option linter.unusedSimpArgs false
set_option linter.constructorNameAsVariable false
namespace Go.Proofs.Ytkkkkondjclcnaa.A
open Go
noncomputable section
variable [Lp]
section
variable (a0:(List Int))(a1:(List (List Bool)))(a2:Int)
def fq(v0_8:Nat):Option (Nat⊕(Nat⊕(Nat×Bool))):=
 if (v0_8:Int)<(a0.length:Int) then
  (a0[v0_8]?).bind fun (y2:Int)=>
  (gZ y2 a1 a2).bind fun (r4:Bool)=>
  if r4=true then
   some (.inr (.inl v0_8))
  else
   if IntKind.i64.wrap ((v0_8:Int)+1)=((v0_8+1:Nat):Int) then
    some (.inl (v0_8+1))
   else none
 else
  some (.inr (.inr (v0_8,decide ((v0_8:Int)<(a0.length:Int)))))
abbrev lr(v:Nat):St:=⟨[(0,(.l 3 (a0.map (I)))),(1,(.f 50 [(.e (.l 42 (a1.map (bM 4 AV.b))) 0),(.e (I a2) 0)])),(7,(I (a0.length:Int))),(8,(I (v:Int)))],[],H0⟩
abbrev lu(x:(Nat⊕(Nat×Bool))):aE×St:=match x with | .inl z1=>(.ret,⟨[(4,(I (z1:Int)))],[],H0⟩) | .inr (z1,z2)=>((.ex 0),⟨[(0,(.l 3 (a0.map (I)))),(1,(.f 50 [(.e (.l 42 (a1.map (bM 4 AV.b))) 0),(.e (I a2) 0)])),(7,(I (a0.length:Int))),(8,(I (z1:Int))),(9,(.b z2))],[],H0⟩)
theorem kT(v0_8:Nat)(o:Nat⊕(Nat⊕(Nat×Bool)))(h:fq a0 a1 a2 v0_8=some o):bG E0 BX (lr a0 a1 a2) (lu a0 a1 a2) v0_8 o:=
 bO (.or (bt<|ao (.n v0_8)<|xI fun y2=>xB fun r4=>oN (ao (.i ((v0_8+1:Nat):Int))<|.nil)) (bf<|.nil)) fun L=>bQ h (fun h1 h=>ai (decide_eq_true h1)<|ai (rI v0_8)<|cw h fun y2 h3 h=>ai (aZ (I) h3)<|aJ h (uT y2 a1 a2) fun r4 h=>bb h (fun h6 h=>ai h6<|L h) (fun h6 h=>ai h6<|aV h fun w7 h=>ai w7<|L h)) (fun h1 h=>ai (decide_eq_false h1)<|L h)
abbrev mP(a0:(List Int))(a1:(List (List Bool)))(a2:Int)(r:Int):aR×HP:=(.ret (I r),H0)
def fT:Option Int:=
 (lp (fun v=>fq a0 a1 a2 v) 0).bind fun (x1:(Nat⊕(Nat×Bool)))=>match x1 with
 | .inl ya_2=>
  some (ya_2:Int)
 | .inr yb_2=>
  some (-1)
theorem kU(r:Int)(h:fT a0 a1 a2=some r):call G Ω0 E0 74 [(.l 3 (a0.map (I))),(.f 50 [(.e (.l 42 (a1.map (bM 4 AV.b))) 0),(.e (I a2) 0)])] H0=some (mP a0 a1 a2 r):=
 aH L1 (ao (.i (a0.length:Int))<|.or (.ex fun (ya_2:Nat)=>ao (.lp .ret ⟨[(4,(I (ya_2:Int)))],[],H0⟩)<|.nil) (.ex fun (yb_2:(Nat×Bool))=>ao (.lp (.ex 0) ⟨[(0,(.l 3 (a0.map (I)))),(1,(.f 50 [(.e (.l 42 (a1.map (bM 4 AV.b))) 0),(.e (I a2) 0)])),(7,(I (a0.length:Int))),(8,(I (yb_2.1:Int))),(9,(.b yb_2.2))],[],H0⟩)<|.nil)) fun L=>ai (ay (I) a0)<|dT h (gu (kT a0 a1 a2) 0) (fun ya_2 h=>L h) (fun yb_2 h=>L h)
abbrev kW(a0:(List Int))(a1:(List (List Bool)))(a2:Int)(r:Bool):aR×HP:=(.ret (.b r),H0)
def di:Option Bool:=
 (fT a0 a1 a2).bind fun (r1:Int)=>
 some (decide (0≤r1))
theorem jM(r:Bool)(h:di a0 a1 a2=some r):call G Ω0 E0 49 [(.l 3 (a0.map (I))),(.f 50 [(.e (.l 42 (a1.map (bM 4 AV.b))) 0),(.e (I a2) 0)])] H0=some (kW a0 a1 a2 r):=
 aH L0 (xI fun r1=>.nil) fun L=>aJ h (kU a0 a1 a2) fun r1 h=>L h
end
section
variable (a0:bq)(a1:(List (List Bool)))(a2:Int)
abbrev Ao(a0:bq)(a1:(List (List Bool)))(a2:Int)(r:Bool):aR×HP:=(.ret (.b r),H0)
def ju:Option Bool:=
 (fY a2).bind fun (j1:Nat)=>
 (a1[j1]?).bind fun (y3:(List Bool))=>
 (fY a0.Owner).bind fun (j5:Nat)=>
 (y3[j5]?).bind fun (y7:Bool)=>
 if y7=true then
  some false
 else
  (di a0.Names a1 a2).bind fun (r10:Bool)=>
  some (!r10)
theorem wK(r:Bool)(h:ju a0 a1 a2=some r):call G Ω0 E0 48 [(.a [(I a0.Owner),(.l 3 (a0.Names.map (I)))]),(.e (.l 42 (a1.map (bM 4 AV.b))) 0),(.e (I a2) 0)] H0=some (Ao a0 a1 a2 r):=
 aH TX (xN fun j1=>.ex fun (y3:(List Bool))=>ao (.v (.l 4 (y3.map AV.b)))<|bt<|xN fun j5=>xB fun y7=>.or (Ju<|.nil) (oi<|xB fun r10=>iI<|.nil)) fun L=>ai tt<|ai tt<|ai tt<|ai tt<|sI h fun j1 h2 h=>ai h2<|cw h fun y3 h4 h=>ai (aZ (bM 4 AV.b) h4)<|ai tt<|ai tt<|ai tt<|ai (rfl:Z0)<|ai tt<|sI h fun j5 h6 h=>ai h6<|cw h fun y7 h8 h=>ai (aZ AV.b h8)<|ai tt<|ai tt<|ai tt<|ai tt<|bb h (fun h9 h=>HF (congrArg not h9)<|L h) (fun h9 h=>ai (g1 (congrArg not h9))<|ai tt<|ai (g1 (congrArg not h9))<|ai (rfl:Z0)<|ai tt<|ai (g1 (congrArg not h9))<|ai tt<|ai (g1 (congrArg not h9))<|aJ h (jM a0.Names a1 a2) fun r10 h=>Ei (congrArg not h9)<|L h)
end
section
variable (a0:(List bq))(a1:(List (List Bool)))(a2:Int)
def fU(v0_8:Nat):Option (Nat⊕(Nat⊕(Nat×Bool))):=
 if (v0_8:Int)<(a0.length:Int) then
  (a0[v0_8]?).bind fun (y2:bq)=>
  (ju y2 a1 a2).bind fun (r4:Bool)=>
  if r4=true then
   some (.inr (.inl v0_8))
  else
   if IntKind.i64.wrap ((v0_8:Int)+1)=((v0_8+1:Nat):Int) then
    some (.inl (v0_8+1))
   else none
 else
  some (.inr (.inr (v0_8,decide ((v0_8:Int)<(a0.length:Int)))))
abbrev mQ(v:Nat):St:=⟨[(0,(.l 95 (a0.map aK))),(1,(.f 48 [(.e (.l 42 (a1.map (bM 4 AV.b))) 0),(.e (I a2) 0)])),(7,(I (a0.length:Int))),(8,(I (v:Int)))],[],H0⟩
abbrev mR(x:(Nat⊕(Nat×Bool))):aE×St:=match x with | .inl z1=>(.ret,⟨[(4,(I (z1:Int)))],[],H0⟩) | .inr (z1,z2)=>((.ex 0),⟨[(0,(.l 95 (a0.map aK))),(1,(.f 48 [(.e (.l 42 (a1.map (bM 4 AV.b))) 0),(.e (I a2) 0)])),(7,(I (a0.length:Int))),(8,(I (z1:Int))),(9,(.b z2))],[],H0⟩)
theorem mc(v0_8:Nat)(o:Nat⊕(Nat⊕(Nat×Bool)))(h:fU a0 a1 a2 v0_8=some o):bG E0 Ji (mQ a0 a1 a2) (mR a0 a1 a2) v0_8 o:=
 bO (.or (bt<|ao (.n v0_8)<|.ex fun (y2:bq)=>ao (.v (.a [(I y2.Owner),(.l 3 (y2.Names.map (I)))]))<|xB fun r4=>oN (ao (.i ((v0_8+1:Nat):Int))<|.nil)) (bf<|.nil)) fun L=>bQ h (fun h1 h=>ai (decide_eq_true h1)<|ai (rI v0_8)<|cw h fun y2 h3 h=>ai (aZ aK h3)<|aJ h (wK y2 a1 a2) fun r4 h=>bb h (fun h6 h=>ai h6<|L h) (fun h6 h=>ai h6<|aV h fun w7 h=>ai w7<|L h)) (fun h1 h=>ai (decide_eq_false h1)<|L h)
abbrev nL(a0:(List bq))(a1:(List (List Bool)))(a2:Int)(r:Int):aR×HP:=(.ret (I r),H0)
def hO:Option Int:=
 (lp (fun v=>fU a0 a1 a2 v) 0).bind fun (x1:(Nat⊕(Nat×Bool)))=>match x1 with
 | .inl ya_2=>
  some (ya_2:Int)
 | .inr yb_2=>
  some (-1)
theorem me(r:Int)(h:hO a0 a1 a2=some r):call G Ω0 E0 75 [(.l 95 (a0.map aK)),(.f 48 [(.e (.l 42 (a1.map (bM 4 AV.b))) 0),(.e (I a2) 0)])] H0=some (nL a0 a1 a2 r):=
 aH Un (ao (.i (a0.length:Int))<|.or (.ex fun (ya_2:Nat)=>ao (.lp .ret ⟨[(4,(I (ya_2:Int)))],[],H0⟩)<|.nil) (.ex fun (yb_2:(Nat×Bool))=>ao (.lp (.ex 0) ⟨[(0,(.l 95 (a0.map aK))),(1,(.f 48 [(.e (.l 42 (a1.map (bM 4 AV.b))) 0),(.e (I a2) 0)])),(7,(I (a0.length:Int))),(8,(I (yb_2.1:Int))),(9,(.b yb_2.2))],[],H0⟩)<|.nil)) fun L=>ai (ay aK a0)<|dT h (gu (mc a0 a1 a2) 0) (fun ya_2 h=>L h) (fun yb_2 h=>L h)
abbrev mg(a0:(List bq))(a1:(List (List Bool)))(a2:Int)(r:Bool):aR×HP:=(.ret (.b r),H0)
def dG:Option Bool:=
 (hO a0 a1 a2).bind fun (r1:Int)=>
 some (decide (0≤r1))
theorem km(r:Bool)(h:dG a0 a1 a2=some r):call G Ω0 E0 51 [(.l 95 (a0.map aK)),(.f 48 [(.e (.l 42 (a1.map (bM 4 AV.b))) 0),(.e (I a2) 0)])] H0=some (mg a0 a1 a2 r):=
 aH TZ (xI fun r1=>.nil) fun L=>aJ h (me a0 a1 a2) fun r1 h=>L h
end
section
variable (a0:(List bq))(a1:aa)(a2:(List (List Bool)))
def gE(v0_5:(List Bool))(v0_10:Nat):Option (((List Bool)×Nat)⊕((List Bool)×Nat×Bool)):=
 if (v0_10:Int)<a1.Many then
  (dG a0 a2 (v0_10:Int)).bind fun (r2:Bool)=>
  if v0_5.length+([!r2]).length≤1000000000 then
   if IntKind.i64.wrap ((v0_10:Int)+1)=((v0_10+1:Nat):Int) then
    some (.inl (v0_5++([!r2]),v0_10+1))
   else none
  else none
 else
  some (.inr (v0_5,v0_10,decide ((v0_10:Int)<a1.Many)))
abbrev Ap(v:((List Bool)×Nat)):St:=⟨[(0,(.l 95 (a0.map aK))),(2,(.e (.l 42 (a2.map (bM 4 AV.b))) 0)),(5,(.o 4 (v.1.map AV.b))),(9,(I a1.Many)),(10,(I (v.2:Int)))],[],H0⟩
abbrev Aq(x:((List Bool)×Nat×Bool)):aE×St:=((.ex 0),⟨[(0,(.l 95 (a0.map aK))),(2,(.e (.l 42 (a2.map (bM 4 AV.b))) 0)),(5,(.o 4 (x.1.map AV.b))),(9,(I a1.Many)),(10,(I (x.2.1:Int))),(11,(.b x.2.2))],[],H0⟩)
theorem y0(v0_5:(List Bool))(v0_10:Nat)(o:((List Bool)×Nat)⊕((List Bool)×Nat×Bool))(h:gE a0 a1 a2 v0_5 v0_10=some o):bG E0 I6 (Ap a0 a1 a2) (Aq a0 a1 a2) (v0_5,v0_10) o:=
 bO (.or (fO<|xB fun r2=>ao (.l (([!r2]).map AV.b))<|ao (.l ((v0_5++([!r2])).map AV.b))<|ao (.i ((v0_10+1:Nat):Int))<|.nil) (bf<|.nil)) fun L=>bQ h (fun h1 h=>ai (decide_eq_true h1)<|ai tt<|ai ff<|ai (rfl:Z0)<|ai tt<|ai (rfl:Z0)<|ai (rfl:Z0)<|aJ h (km a0 a2 (v0_10:Int)) fun r2 h=>ai (rfl:[(.b (!r2))]=([!r2]).map AV.b)<|ai ff<|aV h fun h4 h=>ai ((jg AV.b (n:=1) (fun _=>rfl) ([!r2])):(([!r2]).map AV.b).all (fun e=>e.nc==1)=true)<|ai ((np h4 (by decide)):((v0_5.map AV.b).length+(([!r2]).map AV.b).length)*1≤140737488355328)<|ai ((nq h4):(v0_5.map AV.b).length+(([!r2]).map AV.b).length≤maxLen)<|ai (List.map_append.symm:v0_5.map AV.b++([!r2]).map AV.b=(v0_5++([!r2])).map AV.b)<|aV h fun w5 h=>ai w5<|L h) (fun h1 h=>ai (decide_eq_false h1)<|L h)
abbrev CD(a0:(List bq))(a1:aa)(a2:(List (List Bool)))(r:(List Bool)):aR×HP:=(.ret (.l 4 (r.map AV.b)),H0)
def lx:Option (List Bool):=
 (lp (fun v=>gE a0 a1 a2 v.1 v.2) (([]:List Bool),0)).bind fun (x1:((List Bool)×Nat×Bool))=>
 some x1.1
theorem si(r:(List Bool))(h:lx a0 a1 a2=some r):call G Ω0 E0 47 [(.l 95 (a0.map aK)),(.e (.a [(I a1.Many),(.l 93 (a1.Grants.map ax))]) 0),(.e (.l 42 (a2.map (bM 4 AV.b))) 0)] H0=some (CD a0 a1 a2 r):=
 aH TW (.ex fun (x1:((List Bool)×Nat×Bool))=>ao (.lp (.ex 0) ⟨[(0,(.l 95 (a0.map aK))),(2,(.e (.l 42 (a2.map (bM 4 AV.b))) 0)),(5,(.o 4 (x1.1.map AV.b))),(9,(I a1.Many)),(10,(I (x1.2.1:Int))),(11,(.b x1.2.2))],[],H0⟩)<|.nil) fun L=>aJ h (gu (fun v=>y0 a0 a1 a2 v.1 v.2) (([]:List Bool),0)) fun x1 h=>L h
end
section
variable (a0:aa)(a1:Label)
abbrev FE(a0:aa)(a1:Label)(r:Level):aR×HP:=(.ret (.a [(.l 4 (r.Readers.map AV.b)),(.l 4 (r.Writers.map AV.b))]),H0)
def e7:Option Level:=
 (ot a0).bind fun (r1:(List (List Bool)))=>
 (lx a1.Read a0 r1).bind fun (r3:(List Bool))=>
 (lx a1.Write a0 r1).bind fun (r5:(List Bool))=>
 some (⟨r3,r5⟩:Level)
theorem pY(r:Level)(h:e7 a0 a1=some r):call G Ω0 E0 24 [(.a [(I a0.Many),(.l 93 (a0.Grants.map ax))]),(.a [(.l 95 (a1.Read.map aK)),(.l 95 (a1.Write.map aK))])] H0=some (FE a0 a1 r):=
 aH TB (bt<|.ex fun (r1:(List (List Bool)))=>ao (.v (.l 42 (r1.map (bM 4 AV.b))))<|fO<|.ex fun (r3:(List Bool))=>ao (.v (.l 4 (r3.map AV.b)))<|bt<|.ex fun (r5:(List Bool))=>ao (.v (.l 4 (r5.map AV.b)))<|iI<|.nil) fun L=>ai tt<|ai tt<|ai tt<|ai (rfl:Z0)<|aJ h (yZ a0) fun r1 h=>ai tt<|ai ff<|ai (rfl:Z0)<|ai tt<|ai (rfl:Z0)<|ai (rfl:Z0)<|ai (rfl:Z0)<|ai tt<|ai tt<|ai tt<|ai (rfl:Z0)<|ai tt<|aJ h (si a1.Read a0 r1) fun r3 h=>ai tt<|ai tt<|ai tt<|ai (rfl:Z0)<|ai tt<|aJ h (si a1.Write a0 r1) fun r5 h=>ai ff<|ai (rfl:Z0)<|ai tt<|ai (rfl:Z0)<|ai (rfl:Z0)<|L h
end
section
variable (a0:aa)(a1:Level)
abbrev BH(a0:aa)(a1:Level)(r:Bool):aR×HP:=(.ret (.b r),H0)
def jV:Option Bool:=
 if ((a1.Readers.length:Int)==a0.Many)=true then
  some ((a1.Writers.length:Int)==a0.Many)
 else
  some false
theorem ra(r:Bool)(h:jV a0 a1=some r):call G Ω0 E0 44 [(.a [(I a0.Many),(.l 93 (a0.Grants.map ax))]),(.a [(.l 4 (a1.Readers.map AV.b)),(.l 4 (a1.Writers.map AV.b))])] H0=some (BH a0 a1 r):=
 aH TU (bt<|ao (.i (a1.Readers.length:Int))<|bt<|.or (uM<|ao (.i (a1.Writers.length:Int))<|oi<|.nil) (HI<|.nil)) fun L=>ai tt<|ai tt<|ai (rfl:Z0)<|ai (ay AV.b a1.Readers)<|ai (rfl:Z0)<|bb h (fun h1 h=>ai (g1 h1)<|ai (g1 h1)<|ai (rfl:Z0)<|ai (g1 h1)<|ai (ay AV.b a1.Writers)<|ai (g1 h1)<|ai (g1 h1)<|ai (rfl:Z0)<|ai (g1 h1)<|ai h1<|L h) (fun h1 h=>ai (g1 h1)<|ai (g1 h1)<|ai (g1 h1)<|ai (g1 h1)<|ai (g1 h1)<|ai (g1 h1)<|ai h1<|L h)
end
section
variable (a0:Level)(a1:aa)
abbrev y1(a0:Level)(a1:aa)(r:Bool):aR×HP:=(.ret (.b r),H0)
def kC:Option Bool:=
 (jV a1 a0).bind fun (r1:Bool)=>
 some (!r1)
theorem vg(r:Bool)(h:kC a0 a1=some r):call G Ω0 E0 55 [(.a [(.l 4 (a0.Readers.map AV.b)),(.l 4 (a0.Writers.map AV.b))]),(.e (.a [(I a1.Many),(.l 93 (a1.Grants.map ax))]) 0)] H0=some (y1 a0 a1 r):=
 aH T8 (bt<|xB fun r1=>.nil) fun L=>ai tt<|ai (rfl:Z0)<|aJ h (ra a1 a0) fun r1 h=>L h
end
section
variable (a0:(List Level))(a1:aa)
def fE(v0_8:Nat):Option (Nat⊕(Nat⊕(Nat×Bool))):=
 if (v0_8:Int)<(a0.length:Int) then
  (a0[v0_8]?).bind fun (y2:Level)=>
  (kC y2 a1).bind fun (r4:Bool)=>
  if r4=true then
   some (.inr (.inl v0_8))
  else
   if IntKind.i64.wrap ((v0_8:Int)+1)=((v0_8+1:Nat):Int) then
    some (.inl (v0_8+1))
   else none
 else
  some (.inr (.inr (v0_8,decide ((v0_8:Int)<(a0.length:Int)))))
abbrev mh(v:Nat):St:=⟨[(0,(.l 44 (a0.map ah))),(1,(.f 55 [(.e (.a [(I a1.Many),(.l 93 (a1.Grants.map ax))]) 0)])),(7,(I (a0.length:Int))),(8,(I (v:Int)))],[],H0⟩
abbrev mi(x:(Nat⊕(Nat×Bool))):aE×St:=match x with | .inl z1=>(.ret,⟨[(4,(I (z1:Int)))],[],H0⟩) | .inr (z1,z2)=>((.ex 0),⟨[(0,(.l 44 (a0.map ah))),(1,(.f 55 [(.e (.a [(I a1.Many),(.l 93 (a1.Grants.map ax))]) 0)])),(7,(I (a0.length:Int))),(8,(I (z1:Int))),(9,(.b z2))],[],H0⟩)
theorem ly(v0_8:Nat)(o:Nat⊕(Nat⊕(Nat×Bool)))(h:fE a0 a1 v0_8=some o):bG E0 Fj (mh a0 a1) (mi a0 a1) v0_8 o:=
 bO (.or (bt<|ao (.n v0_8)<|.ex fun (y2:Level)=>ao (.v (.a [(.l 4 (y2.Readers.map AV.b)),(.l 4 (y2.Writers.map AV.b))]))<|xB fun r4=>oN (ao (.i ((v0_8+1:Nat):Int))<|.nil)) (bf<|.nil)) fun L=>bQ h (fun h1 h=>ai (decide_eq_true h1)<|ai (rI v0_8)<|cw h fun y2 h3 h=>ai (aZ ah h3)<|aJ h (vg y2 a1) fun r4 h=>bb h (fun h6 h=>ai h6<|L h) (fun h6 h=>ai h6<|aV h fun w7 h=>ai w7<|L h)) (fun h1 h=>ai (decide_eq_false h1)<|L h)
abbrev mZ(a0:(List Level))(a1:aa)(r:Int):aR×HP:=(.ret (I r),H0)
def gw:Option Int:=
 (lp (fun v=>fE a0 a1 v) 0).bind fun (x1:(Nat⊕(Nat×Bool)))=>match x1 with
 | .inl ya_2=>
  some (ya_2:Int)
 | .inr yb_2=>
  some (-1)
theorem lz(r:Int)(h:gw a0 a1=some r):call G Ω0 E0 73 [(.l 44 (a0.map ah)),(.f 55 [(.e (.a [(I a1.Many),(.l 93 (a1.Grants.map ax))]) 0)])] H0=some (mZ a0 a1 r):=
 aH Sy (ao (.i (a0.length:Int))<|.or (.ex fun (ya_2:Nat)=>ao (.lp .ret ⟨[(4,(I (ya_2:Int)))],[],H0⟩)<|.nil) (.ex fun (yb_2:(Nat×Bool))=>ao (.lp (.ex 0) ⟨[(0,(.l 44 (a0.map ah))),(1,(.f 55 [(.e (.a [(I a1.Many),(.l 93 (a1.Grants.map ax))]) 0)])),(7,(I (a0.length:Int))),(8,(I (yb_2.1:Int))),(9,(.b yb_2.2))],[],H0⟩)<|.nil)) fun L=>ai (ay ah a0)<|dT h (gu (ly a0 a1) 0) (fun ya_2 h=>L h) (fun yb_2 h=>L h)
abbrev lA(a0:(List Level))(a1:aa)(r:Bool):aR×HP:=(.ret (.b r),H0)
def dx:Option Bool:=
 (gw a0 a1).bind fun (r1:Int)=>
 some (decide (0≤r1))
theorem jW(r:Bool)(h:dx a0 a1=some r):call G Ω0 E0 45 [(.l 44 (a0.map ah)),(.f 55 [(.e (.a [(I a1.Many),(.l 93 (a1.Grants.map ax))]) 0)])] H0=some (lA a0 a1 r):=
 aH Sw (xI fun r1=>.nil) fun L=>aJ h (lz a0 a1) fun r1 h=>L h
end
section
variable (a0:aa)(a1:(List Level))
abbrev BI(a0:aa)(a1:(List Level))(r:Int):aR×HP:=(.ret (I r),H0)
def nx:Option Int:=
 (jm a0).bind fun (r1:Int)=>
 if (r1 !=0)=true then
  some r1
 else
  (dx a1 a0).bind fun (r4:Bool)=>
  if r4=true then
   some 1
  else
   some 0
theorem xC(r:Int)(h:nx a0 a1=some r):call G Ω0 E0 29 [(.a [(I a0.Many),(.l 93 (a0.Grants.map ax))]),(.l 44 (a1.map ah))] H0=some (BI a0 a1 r):=
 aH TF (bt<|xI fun r1=>oN (xB fun r4=>oN (.nil))) fun L=>ai tt<|ai (rfl:Z0)<|aJ h (qa a0) fun r1 h=>bb h (fun h3 h=>ai h3<|L h) (fun h3 h=>p9 h3<|aJ h (jW a1 a0) fun r4 h=>bb h (fun h6 h=>ai h6<|L h) (fun h6 h=>ai h6<|L h))
end
section
variable (a0:aa)(a1:Level)(a2:Level)
abbrev BJ(a0:aa)(a1:Level)(a2:Level)(r:(Bool×Int)):aR×HP:=(.ret (.tp [(.b r.1),(I r.2)]),H0)
def ny:Option (Bool×Int):=
 (nx a0 ([a1,a2])).bind fun (r1:Int)=>
 if (r1 !=0)=true then
  some (false,r1)
 else
  (cT a1 a2).bind fun (r4:Bool)=>
  some (r4,0)
theorem xD(r:(Bool×Int))(h:ny a0 a1 a2=some r):call G Ω0 E0 8 [(.a [(I a0.Many),(.l 93 (a0.Grants.map ax))]),(.a [(.l 4 (a1.Readers.map AV.b)),(.l 4 (a1.Writers.map AV.b))]),(.a [(.l 4 (a2.Readers.map AV.b)),(.l 4 (a2.Writers.map AV.b))])] H0=some (BJ a0 a1 a2 r):=
 aH G8 (fO<|ao (.l (([a1,a2]).map ah))<|xI fun r1=>oN (iI<|xB fun r4=>.nil)) fun L=>ai tt<|ai tt<|ai tt<|ai (rfl:Z0)<|ai (rfl:Z0)<|ai (rfl:Z0)<|ai (rfl:[(.a [(.l 4 (a1.Readers.map AV.b)),(.l 4 (a1.Writers.map AV.b))]),(.a [(.l 4 (a2.Readers.map AV.b)),(.l 4 (a2.Writers.map AV.b))])]=([a1,a2]).map ah)<|aJ h (xC a0 ([a1,a2])) fun r1 h=>bb h (fun h3 h=>ai h3<|L h) (fun h3 h=>Js h3<|aJ h (eX a1 a2) fun r4 h=>L h)
end
section
variable (a0:Level)(a1:Level)
abbrev CE(a0:Level)(a1:Level)(r:Bool):aR×HP:=(.ret (.b r),H0)
def lB:Option Bool:=
 (cT a0 a1).bind fun (r1:Bool)=>
 if r1=true then
  (cT a1 a0).bind fun (r4:Bool)=>
  some r4
 else
  some false
theorem y4(r:Bool)(h:lB a0 a1=some r):call G Ω0 E0 23 [(.a [(.l 4 (a0.Readers.map AV.b)),(.l 4 (a0.Writers.map AV.b))]),(.a [(.l 4 (a1.Readers.map AV.b)),(.l 4 (a1.Writers.map AV.b))])] H0=some (CE a0 a1 r):=
 aH TA (iI<|xB fun r1=>.or (oi<|xB fun r4=>bt<|.nil) (bf<|bf<|bf<|bf<|.nil)) fun L=>ai tt<|ai tt<|ai (rfl:Z0)<|ai (rfl:Z0)<|aJ h (eX a0 a1) fun r1 h=>bb h (fun h3 h=>ai (g1 h3)<|ai (rfl:Z0)<|ai (g1 h3)<|ai (rfl:Z0)<|ai (g1 h3)<|aJ h (eX a1 a0) fun r4 h=>ai h3<|L h) (fun h3 h=>ai (g1 h3)<|ai (g1 h3)<|ai (g1 h3)<|ai h3<|L h)
end
end
end Go.Proofs.Ytkkkkondjclcnaa.A
