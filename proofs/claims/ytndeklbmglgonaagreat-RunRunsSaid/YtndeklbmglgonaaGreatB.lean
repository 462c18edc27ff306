/- Functions of the program as plain functions, by program. -/
import Derived.Test.YtndeklbmglgonaaGreatTypes
import Derived.Test.YtndeklbmglgonaaGreatLift
import Derived.Test.YtndeklbmglgonaaGreatD
set_option maxRecDepth 100000
set_option linter.unusedSectionVars false
set_option linter.unusedVariables false
set_option linter.unusedSimpArgs false
set_option linter.constructorNameAsVariable false
namespace Go.Proofs.YtndeklbmglgonaaGreat.A
open Go
noncomputable section
variable [Lp]
section
variable (a0:(List Event))(a1:(List Event))
def jl(v0_5:Nat):Option (Nat⊕(Unit⊕(Nat×Bool))):=
 if (v0_5:Int)<(a0.length:Int) then
  (a0[v0_5]?).bind fun (y3:Event)=>
  (a1[v0_5]?).bind fun (y5:Event)=>
  if ((y3.Kind==y5.Kind)&&((y3.At==y5.At)&&((y3.Which==y5.Which)&&((y3.Value==y5.Value)&&true))))=true then
   if IntKind.i64.wrap ((v0_5:Int)+1)=((v0_5+1:Nat):Int) then
    some (.inl (v0_5+1))
   else none
  else
   some (.inr (.inl ()))
 else
  some (.inr (.inr (v0_5,decide ((v0_5:Int)<(a0.length:Int)))))
abbrev Bv(v:Nat):St:=⟨[(0,(.l 73 (a0.map aw))),(1,(.l 73 (a1.map aw))),(5,(I (v:Int)))],[],H0⟩
abbrev Bw(x:(Unit⊕(Nat×Bool))):aJ×St:=match x with | .inl ()=>(.ret,⟨[(4,(.b false))],[],H0⟩) | .inr (z1,z2)=>((.ex 0),⟨[(0,(.l 73 (a0.map aw))),(1,(.l 73 (a1.map aw))),(5,(I (z1:Int))),(14,(.b z2))],[],H0⟩)
theorem Aj(v0_5:Nat)(o:Nat⊕(Unit⊕(Nat×Bool)))(h:jl a0 a1 v0_5=some o):bu E0 LZ (Bv a0 a1) (Bw a0 a1) v0_5 o:=
 bD (ao (.i (a0.length:Int))<|.or (bt<|ao (.n v0_5)<|.ex fun (y3:Event)=>ao (.v (.a (B5 y3)))<|ao (.n v0_5)<|.ex fun (y5:Event)=>ao (.v (.a (B5 y5)))<|ao (.b ((y3.Kind==y5.Kind)&&((y3.At==y5.At)&&((y3.Which==y5.Which)&&((y3.Value==y5.Value)&&true)))))<|.or (bf<|ao (.i ((v0_5+1:Nat):Int))<|.nil) (bt<|.nil)) (bf<|.nil)) fun L=>ai (ax aw a0)<|bB h (fun h2 h=>FD (decide_eq_true h2)<|ai (rI v0_5)<|ba h fun y3 h4 h=>ai (ay aw h4)<|pD<|ai (rI v0_5)<|ba h fun y5 h6 h=>ai (ay aw h6)<|cD<|ai (rfl:fD [1,1,1,1] (B5 y3) (B5 y5)=some ((y3.Kind==y5.Kind)&&((y3.At==y5.At)&&((y3.Which==y5.Which)&&((y3.Value==y5.Value)&&true)))))<|aM h (fun h7 h=>ai (congrArg not h7)<|aA h fun w8 h=>ai w8<|L h) (fun h7 h=>ai (congrArg not h7)<|L h)) (fun h2 h=>ai (decide_eq_false h2)<|L h)
abbrev D9(a0:(List Event))(a1:(List Event))(r:Bool):bh×HP:=(.ret (.b r),H0)
def nL:Option Bool:=
 if ((a0.length:Int) !=(a1.length:Int))=true then
  some false
 else
  (lp (fun v=>jl a0 a1 v) 0).bind fun (x2:(Unit⊕(Nat×Bool)))=>match x2 with
  | .inl ya_3=>
   some false
  | .inr yb_3=>
   some true
theorem Ak(r:Bool)(h:nL a0 a1=some r):call G Ω0 E0 50 [(.l 73 (a0.map aw)),(.l 73 (a1.map aw))] H0=some (D9 a0 a1 r):=
 aO G50 (ao (.i (a0.length:Int))<|ao (.i (a1.length:Int))<|oN (.or (.ex fun (ya_3:Unit)=>ao (.lp .ret ⟨[(4,(.b false))],[],H0⟩)<|.nil) (.ex fun (yb_3:(Nat×Bool))=>ao (.lp (.ex 0) ⟨[(0,(.l 73 (a0.map aw))),(1,(.l 73 (a1.map aw))),(5,(I (yb_3.1:Int))),(14,(.b yb_3.2))],[],H0⟩)<|.nil))) fun L=>ai (ax aw a0)<|ai (ax aw a1)<|aM h (fun h1 h=>ai h1<|L h) (fun h1 h=>ai h1<|bO h (cV (Aj a0 a1) 0) (fun ya_3 h=>L h) (fun yb_3 h=>L h))
end
section
variable (a0:(List Int))(a1:(List Int))
def kL(v0_5:Nat):Option (Nat⊕(Unit⊕(Nat×Bool))):=
 if (v0_5:Int)<(a0.length:Int) then
  (a0[v0_5]?).bind fun (y3:Int)=>
  (a1[v0_5]?).bind fun (y5:Int)=>
  if (y3 !=y5)=true then
   some (.inr (.inl ()))
  else
   if IntKind.i64.wrap ((v0_5:Int)+1)=((v0_5+1:Nat):Int) then
    some (.inl (v0_5+1))
   else none
 else
  some (.inr (.inr (v0_5,decide ((v0_5:Int)<(a0.length:Int)))))
abbrev Ea(v:Nat):St:=⟨[(0,(.l 3 (a0.map (I)))),(1,(.l 3 (a1.map (I)))),(5,(I (v:Int)))],[],H0⟩
abbrev Eb(x:(Unit⊕(Nat×Bool))):aJ×St:=match x with | .inl ()=>(.ret,⟨[(4,(.b false))],[],H0⟩) | .inr (z1,z2)=>((.ex 0),⟨[(0,(.l 3 (a0.map (I)))),(1,(.l 3 (a1.map (I)))),(5,(I (z1:Int))),(14,(.b z2))],[],H0⟩)
theorem C2(v0_5:Nat)(o:Nat⊕(Unit⊕(Nat×Bool)))(h:kL a0 a1 v0_5=some o):bu E0 LG (Ea a0 a1) (Eb a0 a1) v0_5 o:=
 bD (ao (.i (a0.length:Int))<|.or (bt<|ao (.n v0_5)<|xI fun y3=>ao (.n v0_5)<|xI fun y5=>oN (ao (.i ((v0_5+1:Nat):Int))<|.nil)) (bf<|.nil)) fun L=>ai (ax (I) a0)<|bB h (fun h2 h=>FD (decide_eq_true h2)<|ai (rI v0_5)<|ba h fun y3 h4 h=>ai (ay (I) h4)<|pD<|ai (rI v0_5)<|ba h fun y5 h6 h=>ai (ay (I) h6)<|cD<|aM h (fun h7 h=>ai h7<|L h) (fun h7 h=>ai h7<|aA h fun w8 h=>ai w8<|L h)) (fun h2 h=>ai (decide_eq_false h2)<|L h)
abbrev Gt(a0:(List Int))(a1:(List Int))(r:Bool):bh×HP:=(.ret (.b r),H0)
def mV:Option Bool:=
 if ((a0.length:Int) !=(a1.length:Int))=true then
  some false
 else
  (lp (fun v=>kL a0 a1 v) 0).bind fun (x2:(Unit⊕(Nat×Bool)))=>match x2 with
  | .inl ya_3=>
   some false
  | .inr yb_3=>
   some true
theorem ub(r:Bool)(h:mV a0 a1=some r):call G Ω0 E0 22 [(.l 3 (a0.map (I))),(.l 3 (a1.map (I)))] H0=some (Gt a0 a1 r):=
 aO G22 (ao (.i (a0.length:Int))<|ao (.i (a1.length:Int))<|oN (.or (.ex fun (ya_3:Unit)=>ao (.lp .ret ⟨[(4,(.b false))],[],H0⟩)<|.nil) (.ex fun (yb_3:(Nat×Bool))=>ao (.lp (.ex 0) ⟨[(0,(.l 3 (a0.map (I)))),(1,(.l 3 (a1.map (I)))),(5,(I (yb_3.1:Int))),(14,(.b yb_3.2))],[],H0⟩)<|.nil))) fun L=>ai (ax (I) a0)<|ai (ax (I) a1)<|aM h (fun h1 h=>ai h1<|L h) (fun h1 h=>ai h1<|bO h (cV (C2 a0 a1) 0) (fun ya_3 h=>L h) (fun yb_3 h=>L h))
def ve:List cK:=(gM 31 30)::⟨some 32,.fa 4 2,some ⟨31,true⟩,false⟩::⟨some 33,.ld none 32,some ⟨31,true⟩,false⟩::⟨some 34,.fa 4 3,some ⟨31,true⟩,false⟩::⟨some 35,.ld none 34,some ⟨31,true⟩,false⟩::⟨some 36,.bo .eql false 33 35,some ⟨31,true⟩,false⟩::(gp 37 (.pk 31 36 (.c (.b false))))::(gM 38 37)::⟨some 39,.fa 5 2,some ⟨38,true⟩,false⟩::⟨some 40,.ld none 39,some ⟨38,true⟩,false⟩::⟨some 41,.fa 5 3,some ⟨38,true⟩,false⟩::⟨some 42,.ld none 41,some ⟨38,true⟩,false⟩::⟨some 43,.bo .eql false 40 42,some ⟨38,true⟩,false⟩::(gp 44 (.pk 38 43 (.c (.b false))))::(gA 4 44)::[]
end
section
variable (a0:RunT)(a1:RunT)
def iR(r1:Bool)(u2_1:Bool):Option Bool:=
 if u2_1=true then
  if (a0.End==a1.End)=true then
   some (a0.Stop==a1.Stop)
  else
   some false
 else
  some false
abbrev Ec(a0:RunT)(a1:RunT)(r1:Bool)(u2_1:Bool)(x:Bool):St:=⟨[(4,(.b x))],[],H0⟩
theorem l9(r1:Bool)(u2_1:Bool)(w:List AV)(x:Bool)(h:iR a0 a1 r1 u2_1=some x):ew G Ω0 E0 [4] [] ve ⟨[(30,(.b u2_1)),(29,(W w 0)),(28,(W w 1)),(27,(W w 2)),(26,(W w 3)),(25,(W w 4)),(24,(W w 5)),(23,(W w 6)),(22,(W w 7)),(21,(W w 8)),(20,(W w 9)),(19,(W w 10)),(18,(W w 11)),(17,(W w 12)),(16,(W w 13)),(15,(W w 14)),(14,(W w 15)),(13,(W w 16)),(12,(W w 17)),(11,(W w 18)),(10,(.b r1)),(9,(.b r1)),(8,(.l 73 (a1.Events.map aw))),(7,(.p ⟨0,3⟩ 0)),(6,(.l 73 (a0.Events.map aw))),(5,(.p ⟨0,2⟩ 0)),(2,(.p ⟨0,2⟩ 0)),(3,(.p ⟨0,3⟩ 0))],[(2,(fp a0)),(3,(fp a1))],H0⟩=some (Ec a0 a1 r1 u2_1 x):=
 dj (.or (KD<|.or (KD<|.nil) (FH<|.nil)) (Qp<|.nil)) fun L=>aM h (fun h10 h=>Kx h10<|aM h (fun h11 h=>Kx h11<|L h) (fun h11 h=>IK h11<|L h)) (fun h10 h=>ai (g1 h10)<|ai (g1 h10)<|ai (g1 h10)<|ai (g1 h10)<|ai (g1 h10)<|ai h10<|ai gf<|ai gf<|ai gf<|ai gf<|ai gf<|ai ff<|L h)
def Ed:List cK:=(gF 5 0 2)::(gQ 6 5)::(gF 7 0 3)::(gQ 8 7)::(gp 9 (.ca 0 50 [6,8]))::(gM 10 9)::⟨some 11,.fa 1 2,some ⟨10,true⟩,false⟩::⟨some 12,.ld none 11,some ⟨10,true⟩,false⟩::⟨some 13,.fa 1 3,some ⟨10,true⟩,false⟩::⟨some 14,.ld none 13,some ⟨10,true⟩,false⟩::⟨some 15,.ca 0 22 [12,14],some ⟨10,true⟩,false⟩::(gp 16 (.pk 10 15 (.c (.b false))))::(gM 17 16)::⟨some 18,.fa 2 2,some ⟨17,true⟩,false⟩::⟨some 19,.ld none 18,some ⟨17,true⟩,false⟩::⟨some 20,.fa 2 3,some ⟨17,true⟩,false⟩::⟨some 21,.ld none 20,some ⟨17,true⟩,false⟩::⟨some 22,.ca 0 22 [19,21],some ⟨17,true⟩,false⟩::(gp 23 (.pk 17 22 (.c (.b false))))::(gM 24 23)::⟨some 25,.fa 3 2,some ⟨24,true⟩,false⟩::⟨some 26,.ld none 25,some ⟨24,true⟩,false⟩::⟨some 27,.fa 3 3,some ⟨24,true⟩,false⟩::⟨some 28,.ld none 27,some ⟨24,true⟩,false⟩::⟨some 29,.bo .eql false 26 28,some ⟨24,true⟩,false⟩::(gp 30 (.pk 24 29 (.c (.b false))))::ve
def qz:Option Bool:=
 (nL a0.Events a1.Events).bind fun (r1:Bool)=>
 if r1=true then
  (mV a0.Vars a1.Vars).bind fun (r4:Bool)=>
  if r4=true then
   (mV a0.Taken a1.Taken).bind fun (r7:Bool)=>
   if r7=true then
    (iR a0 a1 r1 (a0.Steps==a1.Steps)).bind fun (x10:Bool)=>
    some x10
   else
    (iR a0 a1 r1 false).bind fun (x10:Bool)=>
    some x10
  else
   (iR a0 a1 r1 false).bind fun (x7:Bool)=>
   some x7
 else
  (iR a0 a1 r1 false).bind fun (x4:Bool)=>
  some x4
abbrev Ee(a0:RunT)(a1:RunT)(x:Bool):St:=⟨[(4,(.b x))],[],H0⟩
theorem C3(x:Bool)(h:qz a0 a1=some x):ew G Ω0 E0 [4] [] Ed ⟨[(2,(.p ⟨0,2⟩ 0)),(3,(.p ⟨0,3⟩ 0))],[(2,(fp a0)),(3,(fp a1))],H0⟩=some (Ee a0 a1 x):=
 dj (b5<|xB fun r1=>.or (AI<|xB fun r4=>bt<|.or (AI<|xB fun r7=>bt<|.or (KD<|.jb (some 31) 14<|.ex fun (x10:Bool)=>ao (.jn ⟨[(4,(.b x10))],[],H0⟩)<|.nil) (FH<|.jb (some 31) 14<|.ex fun (x10:Bool)=>ao (.jn ⟨[(4,(.b x10))],[],H0⟩)<|.nil)) (Qp<|.jb (some 31) 14<|.ex fun (x7:Bool)=>ao (.jn ⟨[(4,(.b x7))],[],H0⟩)<|.nil)) (bf<|bf<|bf<|bf<|bf<|bf<|bf<|bf<|bf<|bf<|bf<|bf<|bf<|bf<|bf<|bf<|bf<|bf<|.jb (some 31) 14<|.ex fun (x4:Bool)=>ao (.jn ⟨[(4,(.b x4))],[],H0⟩)<|.nil)) fun L=>ai (rfl:Z0)<|ai (rfl:Z0)<|aB h (Ak a0.Events a1.Events) fun r1 h=>aM h (fun h3 h=>Kw h3<|aB h (ub a0.Vars a1.Vars) fun r4 h=>ai h3<|aM h (fun h6 h=>Kw h6<|aB h (ub a0.Taken a1.Taken) fun r7 h=>ai h6<|aM h (fun h9 h=>Kx h9<|aB h (l9 a0 a1 r1 (a0.Steps==a1.Steps) [(.b (a0.Steps==a1.Steps)),(I a1.Steps),(.p ⟨0,3⟩ 3),(I a0.Steps),(.p ⟨0,2⟩ 3),(.b r7),(.b r7),(.b r7),(.l 3 (a1.Taken.map (I))),(.p ⟨0,3⟩ 2),(.l 3 (a0.Taken.map (I))),(.p ⟨0,2⟩ 2),(.b r4),(.b r4),(.b r4),(.l 3 (a1.Vars.map (I))),(.p ⟨0,3⟩ 1),(.l 3 (a0.Vars.map (I))),(.p ⟨0,2⟩ 1)]) fun x10 h=>L h) (fun h9 h=>IK h9<|aB h (l9 a0 a1 r1 false [.sk,.sk,.sk,.sk,.sk,(.b r7),(.b r7),(.b r7),(.l 3 (a1.Taken.map (I))),(.p ⟨0,3⟩ 2),(.l 3 (a0.Taken.map (I))),(.p ⟨0,2⟩ 2),(.b r4),(.b r4),(.b r4),(.l 3 (a1.Vars.map (I))),(.p ⟨0,3⟩ 1),(.l 3 (a0.Vars.map (I))),(.p ⟨0,2⟩ 1)]) fun x10 h=>L h)) (fun h6 h=>ai (g1 h6)<|ai (g1 h6)<|ai (g1 h6)<|ai (g1 h6)<|ai (g1 h6)<|ai h6<|ai gf<|ai gf<|ai gf<|ai gf<|ai gf<|ai ff<|aB h (l9 a0 a1 r1 false [.sk,.sk,.sk,.sk,.sk,(.b false),(.b false),.sk,.sk,.sk,.sk,.sk,(.b r4),(.b r4),(.b r4),(.l 3 (a1.Vars.map (I))),(.p ⟨0,3⟩ 1),(.l 3 (a0.Vars.map (I))),(.p ⟨0,2⟩ 1)]) fun x7 h=>L h)) (fun h3 h=>ai (g1 h3)<|ai (g1 h3)<|ai (g1 h3)<|ai (g1 h3)<|ai (g1 h3)<|ai h3<|ai gf<|ai gf<|ai gf<|ai gf<|ai gf<|ai ff<|ai gf<|ai gf<|ai gf<|ai gf<|ai gf<|ai ff<|aB h (l9 a0 a1 r1 false [.sk,.sk,.sk,.sk,.sk,(.b false),(.b false),.sk,.sk,.sk,.sk,.sk,(.b false),(.b false),.sk,.sk,.sk,.sk,.sk]) fun x4 h=>L h)
abbrev Hy(a0:RunT)(a1:RunT)(r:Bool):bh×HP:=(.ret (.b r),H0)
def qQ:Option Bool:=
 (qz a0 a1).bind fun (x1:Bool)=>
 some x1
theorem Ef(r:Bool)(h:qQ a0 a1=some r):call G Ω0 E0 23 [(.a (fp a0)),(.a (fp a1))] H0=some (Hy a0 a1 r):=
 aO G23 (.jb (some 5) 40<|.ex fun (x1:Bool)=>ao (.jn ⟨[(4,(.b x1))],[],H0⟩)<|.nil) fun L=>cD<|aB h (C3 a0 a1) fun x1 h=>L h
end
section
variable (a0:RunT)(a1:Int)(a2:Int)(a3:RunT)
def pU(w0_1:(List Event))(w0_2:(List Int))(w0_3:(List Int))(w0_4:Int)(w0_5:Int)(w0_6:Int):Option Bool:=
 if (a1==a2)=true then
  (qQ a0 (⟨w0_1,w0_2,w0_3,w0_4,w0_5,w0_6⟩:RunT)).bind fun (r3:Bool)=>
  some r3
 else
  some false
abbrev Gu(a0:RunT)(a1:Int)(a2:Int)(w0_1:(List Event))(w0_2:(List Int))(w0_3:(List Int))(w0_4:Int)(w0_5:Int)(w0_6:Int)(x:Bool):aJ×St:=(.ret,⟨[(8,(.b x))],[],H0⟩)
theorem wH(w0_1:(List Event))(w0_2:(List Int))(w0_3:(List Int))(w0_4:Int)(w0_5:Int)(w0_6:Int)(x:Bool)(h:pU a0 a1 a2 w0_1 w0_2 w0_3 w0_4 w0_5 w0_6=some x):run G Ω0 E0 NN ⟨[(1,(I a1)),(2,(I a2)),(4,(.p ⟨0,4⟩ 0)),(7,(.p ⟨0,7⟩ 0))],[(4,(fp a0)),(7,[(.l 73 (w0_1.map aw)),(.l 3 (w0_2.map (I))),(.l 3 (w0_3.map (I))),(I w0_4),(I w0_5),(I w0_6)])],H0⟩=some (Gu a0 a1 a2 w0_1 w0_2 w0_3 w0_4 w0_5 w0_6 x):=
 ga (.or (js<|xB fun r3=>bt<|.nil) (FI<|.nil)) fun L=>aM h (fun h2 h=>ai (g1 h2)<|ai (rfl:Z0)<|ai (g1 h2)<|ai (rfl:Z0)<|ai (g1 h2)<|aB h (Ef a0 (⟨w0_1,w0_2,w0_3,w0_4,w0_5,w0_6⟩:RunT)) fun r3 h=>ai h2<|L h) (fun h2 h=>FE h2<|L h)
abbrev JQ(a0:RunT)(a1:Int)(a2:Int)(a3:RunT)(r:Bool):bh×HP:=(.ret (.b r),H0)
def yR:Option Bool:=
 if (a2 !=0)=true then
  (pU a0 a1 a2 ([]:List Event) ([]:List Int) ([]:List Int) 0 0 0).bind fun (x2:Bool)=>
  some x2
 else
  (pU a0 a1 a2 a3.Events a3.Vars a3.Taken a3.Steps a3.End a3.Stop).bind fun (x2:Bool)=>
  some x2
theorem Gv(r:Bool)(h:yR a0 a1 a2 a3=some r):call G Ω0 E0 8 [(.a (fp a0)),(I a1),(I a2),(.a (fp a3))] H0=some (JQ a0 a1 a2 a3 r):=
 aO G8 (.or (cR<|.fb<|.ex fun (x2:Bool)=>ao (.fr .ret ⟨[(8,(.b x2))],[],H0⟩)<|.nil) (bf<|.fb<|.ex fun (x2:Bool)=>ao (.fr .ret ⟨[(8,(.b x2))],[],H0⟩)<|.nil)) fun L=>cD<|aM h (fun h1 h=>ai h1<|ai ff<|ai (rfl:Z0)<|ai tt<|ai (rfl:Z0)<|aB h (wH a0 a1 a2 ([]:List Event) ([]:List Int) ([]:List Int) 0 0 0) fun x2 h=>L h) (fun h1 h=>ai h1<|aB h (wH a0 a1 a2 a3.Events a3.Vars a3.Taken a3.Steps a3.End a3.Stop) fun x2 h=>L h)
def nM(r1:(RunT×Int))(r3:Int)(w0_1:(List Event))(w0_2:(List Int))(w0_3:(List Int))(w0_4:Int)(w0_5:Int)(w0_6:Int):Option Bool:=
 (sL).bind fun (r8:Bool)=>
 if r8=true then
  (yR r1.1 r1.2 r3 (⟨w0_1,w0_2,w0_3,w0_4,w0_5,w0_6⟩:RunT)).bind fun (r11:Bool)=>
  some r11
 else
  none
abbrev Eg(r1:(RunT×Int))(r3:Int)(w0_1:(List Event))(w0_2:(List Int))(w0_3:(List Int))(w0_4:Int)(w0_5:Int)(w0_6:Int)(x:Bool):aJ×St:=(.ret,⟨[(6,(.b x))],[],H0⟩)
theorem uc(r1:(RunT×Int))(r3:Int)(w0_1:(List Event))(w0_2:(List Int))(w0_3:(List Int))(w0_4:Int)(w0_5:Int)(w0_6:Int)(x:Bool)(h:nM r1 r3 w0_1 w0_2 w0_3 w0_4 w0_5 w0_6=some x):run G Ω0 E0 NG ⟨[(7,(.p ⟨0,7⟩ 0)),(8,(I r1.2)),(9,(I r3)),(10,(.p ⟨0,10⟩ 0))],[(7,(fp r1.1)),(10,[(.l 73 (w0_1.map aw)),(.l 3 (w0_2.map (I))),(.l 3 (w0_3.map (I))),(I w0_4),(I w0_5),(I w0_6)])],H0⟩=some (Eg r1 r3 w0_1 w0_2 w0_3 w0_4 w0_5 w0_6 x):=
 ga (xB fun r8=>AI<|xB fun r11=>bt<|.nil) fun L=>aB h (B6) fun r8 h=>Qh h (fun h10 h=>ai (g1 h10)<|ai (rfl:Z0)<|ai (g1 h10)<|ai (g1 h10)<|ai (g1 h10)<|ai (rfl:Z0)<|ai (g1 h10)<|aB h (Gv r1.1 r1.2 r3 (⟨w0_1,w0_2,w0_3,w0_4,w0_5,w0_6⟩:RunT)) fun r11 h=>ai h10<|L h) (fun _ h=>Mu h)
end
section
variable (a0:Program)(a1:(List (List Int)))(a2:Int)
abbrev Hz(a0:Program)(a1:(List (List Int)))(a2:Int)(r:Bool):bh×HP:=(.ret (.b r),H0)
def uE:Option Bool:=
 (re a0 a1 a2).bind fun (r1:(RunT×Int))=>
 (pQ a0 a1 a2).bind fun (r3:Int)=>
 if (r3==0)=true then
  (ua a0 a1 a2).bind fun (r6:(RunT×(List Level)))=>
  (nM r1 r3 r6.1.Events r6.1.Vars r6.1.Taken r6.1.Steps r6.1.End r6.1.Stop).bind fun (x8:Bool)=>
  some x8
 else
  (nM r1 r3 ([]:List Event) ([]:List Int) ([]:List Int) 0 0 0).bind fun (x6:Bool)=>
  some x6
theorem Eh(r:Bool)(h:uE a0 a1 a2=some r):call G Ω0 E0 3 [(.a (ah a0)),(.l 25 (a1.map (bM 3 (I)))),(I a2)] H0=some (Hz a0 a1 a2 r):=
 aO G3 (bt<|.ex fun (r1:(RunT×Int))=>ao (.v (.tp [(.a (fp r1.1)),(I r1.2)]))<|cR<|xI fun r3=>.or (b5<|.ex fun (r6:(RunT×(List Level)))=>ao (.v (.tp [(.a (fp r6.1)),(.l 57 (r6.2.map bk))]))<|b5<|.fb<|.ex fun (x8:Bool)=>ao (.fr .ret ⟨[(6,(.b x8))],[],H0⟩)<|.nil) (bf<|.fb<|.ex fun (x6:Bool)=>ao (.fr .ret ⟨[(6,(.b x6))],[],H0⟩)<|.nil)) fun L=>pC<|aB h (FW a0 a1 a2) fun r1 h=>xH<|aB h (CP a0 a1 a2) fun r3 h=>ai tt<|aM h (fun h5 h=>jr h5<|aB h (Gr a0 a1 a2) fun r6 h=>ai ff<|ai (rfl:Z0)<|ai tt<|ai (rfl:Z0)<|aB h (uc r1 r3 r6.1.Events r6.1.Vars r6.1.Taken r6.1.Steps r6.1.End r6.1.Stop) fun x8 h=>L h) (fun h5 h=>ai h5<|aB h (uc r1 r3 ([]:List Event) ([]:List Int) ([]:List Int) 0 0 0) fun x6 h=>L h)
end
end
end Go.Proofs.YtndeklbmglgonaaGreat.A
