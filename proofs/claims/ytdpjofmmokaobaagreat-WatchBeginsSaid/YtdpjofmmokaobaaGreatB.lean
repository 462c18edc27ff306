/- Functions of the program as plain functions, by program. -/
import Derived.Test.YtdpjofmmokaobaaGreatTypes
import Derived.Test.YtdpjofmmokaobaaGreatLift
import Derived.Test.YtdpjofmmokaobaaGreatFW
set_option maxRecDepth 100000
set_option linter.unusedSectionVars false
set_option linter.unusedVariables false
set_option linter.unusedSimpArgs false
namespace Go.Proofs.YtdpjofmmokaobaaGreat.A
open Go
noncomputable section
variable [Lp]
section
variable (a0:(List Event))(a1:(List Event))
def jX(v0_5:Nat):Option (Nat⊕(Unit⊕(Nat×Bool))):=
 if (v0_5:Int)<(a0.length:Int) then
  (a0[v0_5]?).bind fun (y3:Event)=>
  (a1[v0_5]?).bind fun (y5:Event)=>
  if ((y3.Kind==y5.Kind)&&((y3.At==y5.At)&&((y3.Which==y5.Which)&&((y3.Value==y5.Value)&&true))))=true then
   if IntKind.i64.wrap ((v0_5:Int)+1)=((v0_5+1:Nat):Int) then
    some (.inl (v0_5+1))
   else none
  else
   some (.inr (.inl ()))
 else
  some (.inr (.inr (v0_5,decide ((v0_5:Int)<(a0.length:Int)))))
abbrev BG(v:Nat):St:=⟨[(0,(.l 106 (a0.map aO))),(1,(.l 106 (a1.map aO))),(5,(I (v:Int)))],[],H0⟩
abbrev BH(x:(Unit⊕(Nat×Bool))):aR×St:=match x with | .inl ()=>(.ret,⟨[(4,(.b false))],[],H0⟩) | .inr (z1,z2)=>((.ex 0),⟨[(0,(.l 106 (a0.map aO))),(1,(.l 106 (a1.map aO))),(5,(I (z1:Int))),(14,(.b z2))],[],H0⟩)
theorem AK(v0_5:Nat)(o:Nat⊕(Unit⊕(Nat×Bool)))(h:jX a0 a1 v0_5=some o):bI E0 NJ (BG a0 a1) (BH a0 a1) v0_5 o:=
 bP (ao (.i (a0.length:Int))<|.or (bt<|ao (.n v0_5)<|.ex fun (y3:Event)=>ao (.v (.a (Cb y3)))<|ao (.n v0_5)<|.ex fun (y5:Event)=>ao (.v (.a (Cb y5)))<|ao (.b ((y3.Kind==y5.Kind)&&((y3.At==y5.At)&&((y3.Which==y5.Which)&&((y3.Value==y5.Value)&&true)))))<|.or (bf<|ao (.i ((v0_5+1:Nat):Int))<|.nil) (bt<|.nil)) (bf<|.nil)) fun L=>ai (aL aO a0)<|cb h (fun h2 h=>A9 (decide_eq_true h2)<|ai (rI v0_5)<|aP h fun y3 h4 h=>ai (aD aO h4)<|lz<|ai (rI v0_5)<|aP h fun y5 h6 h=>ai (aD aO h6)<|cF<|ai (rfl:fP [1,1,1,1] (Cb y3) (Cb y5)=some ((y3.Kind==y5.Kind)&&((y3.At==y5.At)&&((y3.Which==y5.Which)&&((y3.Value==y5.Value)&&true)))))<|a8 h (fun h7 h=>ai (congrArg not h7)<|aS h fun w8 h=>ai w8<|L h) (fun h7 h=>ai (congrArg not h7)<|L h)) (fun h2 h=>ai (decide_eq_false h2)<|L h)
abbrev Ee(a0:(List Event))(a1:(List Event))(r:Bool):aW×HP:=(.ret (.b r),H0)
def lR:Option Bool:=
 if ((a0.length:Int) !=(a1.length:Int))=true then
  some false
 else
  (lp (fun v=>jX a0 a1 v) 0).bind fun (x2:(Unit⊕(Nat×Bool)))=>match x2 with
  | .inl ya_3=>
   some false
  | .inr yb_3=>
   some true
theorem s6(r:Bool)(h:lR a0 a1=some r):call G Ω0 E0 50 [(.l 106 (a0.map aO)),(.l 106 (a1.map aO))] H0=some (Ee a0 a1 r):=
 aK G50 (ao (.i (a0.length:Int))<|ao (.i (a1.length:Int))<|oN (.or (.ex fun (ya_3:Unit)=>ao (.lp .ret ⟨[(4,(.b false))],[],H0⟩)<|.nil) (.ex fun (yb_3:(Nat×Bool))=>ao (.lp (.ex 0) ⟨[(0,(.l 106 (a0.map aO))),(1,(.l 106 (a1.map aO))),(5,(I (yb_3.1:Int))),(14,(.b yb_3.2))],[],H0⟩)<|.nil))) fun L=>ai (aL aO a0)<|ai (aL aO a1)<|a8 h (fun h1 h=>ai h1<|L h) (fun h1 h=>ai h1<|cN h (ef (AK a0 a1) 0) (fun ya_3 h=>L h) (fun yb_3 h=>L h))
end
section
variable (a0:(List Int))(a1:(List Int))
def lS(v0_5:Nat):Option (Nat⊕(Unit⊕(Nat×Bool))):=
 if (v0_5:Int)<(a0.length:Int) then
  (a0[v0_5]?).bind fun (y3:Int)=>
  (a1[v0_5]?).bind fun (y5:Int)=>
  if (y3 !=y5)=true then
   some (.inr (.inl ()))
  else
   if IntKind.i64.wrap ((v0_5:Int)+1)=((v0_5+1:Nat):Int) then
    some (.inl (v0_5+1))
   else none
 else
  some (.inr (.inr (v0_5,decide ((v0_5:Int)<(a0.length:Int)))))
abbrev Ef(v:Nat):St:=⟨[(0,(.l 3 (a0.map (I)))),(1,(.l 3 (a1.map (I)))),(5,(I (v:Int)))],[],H0⟩
abbrev Eg(x:(Unit⊕(Nat×Bool))):aR×St:=match x with | .inl ()=>(.ret,⟨[(4,(.b false))],[],H0⟩) | .inr (z1,z2)=>((.ex 0),⟨[(0,(.l 3 (a0.map (I)))),(1,(.l 3 (a1.map (I)))),(5,(I (z1:Int))),(14,(.b z2))],[],H0⟩)
theorem CY(v0_5:Nat)(o:Nat⊕(Unit⊕(Nat×Bool)))(h:lS a0 a1 v0_5=some o):bI E0 NI (Ef a0 a1) (Eg a0 a1) v0_5 o:=
 bP (ao (.i (a0.length:Int))<|.or (bt<|ao (.n v0_5)<|xI fun y3=>ao (.n v0_5)<|xI fun y5=>oN (ao (.i ((v0_5+1:Nat):Int))<|.nil)) (bf<|.nil)) fun L=>ai (aL (I) a0)<|cb h (fun h2 h=>A9 (decide_eq_true h2)<|ai (rI v0_5)<|aP h fun y3 h4 h=>ai (aD (I) h4)<|lz<|ai (rI v0_5)<|aP h fun y5 h6 h=>ai (aD (I) h6)<|cF<|a8 h (fun h7 h=>ai h7<|L h) (fun h7 h=>ai h7<|aS h fun w8 h=>ai w8<|L h)) (fun h2 h=>ai (decide_eq_false h2)<|L h)
abbrev GQ(a0:(List Int))(a1:(List Int))(r:Bool):aW×HP:=(.ret (.b r),H0)
def nT:Option Bool:=
 if ((a0.length:Int) !=(a1.length:Int))=true then
  some false
 else
  (lp (fun v=>lS a0 a1 v) 0).bind fun (x2:(Unit⊕(Nat×Bool)))=>match x2 with
  | .inl ya_3=>
   some false
  | .inr yb_3=>
   some true
theorem vH(r:Bool)(h:nT a0 a1=some r):call G Ω0 E0 49 [(.l 3 (a0.map (I))),(.l 3 (a1.map (I)))] H0=some (GQ a0 a1 r):=
 aK G49 (ao (.i (a0.length:Int))<|ao (.i (a1.length:Int))<|oN (.or (.ex fun (ya_3:Unit)=>ao (.lp .ret ⟨[(4,(.b false))],[],H0⟩)<|.nil) (.ex fun (yb_3:(Nat×Bool))=>ao (.lp (.ex 0) ⟨[(0,(.l 3 (a0.map (I)))),(1,(.l 3 (a1.map (I)))),(5,(I (yb_3.1:Int))),(14,(.b yb_3.2))],[],H0⟩)<|.nil))) fun L=>ai (aL (I) a0)<|ai (aL (I) a1)<|a8 h (fun h1 h=>ai h1<|L h) (fun h1 h=>ai h1<|cN h (ef (CY a0 a1) 0) (fun ya_3 h=>L h) (fun yb_3 h=>L h))
def xi:List dM:=(gM 31 30)::⟨some 32,.fa 4 2,some ⟨31,true⟩,false⟩::⟨some 33,.ld none 32,some ⟨31,true⟩,false⟩::⟨some 34,.fa 4 3,some ⟨31,true⟩,false⟩::⟨some 35,.ld none 34,some ⟨31,true⟩,false⟩::⟨some 36,.bo .eql false 33 35,some ⟨31,true⟩,false⟩::(gp 37 (.pk 31 36 (.c (.b false))))::(gM 38 37)::⟨some 39,.fa 5 2,some ⟨38,true⟩,false⟩::⟨some 40,.ld none 39,some ⟨38,true⟩,false⟩::⟨some 41,.fa 5 3,some ⟨38,true⟩,false⟩::⟨some 42,.ld none 41,some ⟨38,true⟩,false⟩::⟨some 43,.bo .eql false 40 42,some ⟨38,true⟩,false⟩::(gp 44 (.pk 38 43 (.c (.b false))))::(gA 4 44)::[]
end
section
variable (a0:RunT)(a1:RunT)
def jA(r1:Bool)(u2_1:Bool):Option Bool:=
 if u2_1=true then
  if (a0.End==a1.End)=true then
   some (a0.Stop==a1.Stop)
  else
   some false
 else
  some false
abbrev Eh(a0:RunT)(a1:RunT)(r1:Bool)(u2_1:Bool)(x:Bool):St:=⟨[(4,(.b x))],[],H0⟩
theorem mZ(r1:Bool)(u2_1:Bool)(w:List AV)(x:Bool)(h:jA a0 a1 r1 u2_1=some x):lx G Ω0 E0 [4] [] xi ⟨[(30,(.b u2_1)),(29,(W w 0)),(28,(W w 1)),(27,(W w 2)),(26,(W w 3)),(25,(W w 4)),(24,(W w 5)),(23,(W w 6)),(22,(W w 7)),(21,(W w 8)),(20,(W w 9)),(19,(W w 10)),(18,(W w 11)),(17,(W w 12)),(16,(W w 13)),(15,(W w 14)),(14,(W w 15)),(13,(W w 16)),(12,(W w 17)),(11,(W w 18)),(10,(.b r1)),(9,(.b r1)),(8,(.l 106 (a1.Events.map aO))),(7,(.p ⟨0,3⟩ 0)),(6,(.l 106 (a0.Events.map aO))),(5,(.p ⟨0,2⟩ 0)),(2,(.p ⟨0,2⟩ 0)),(3,(.p ⟨0,3⟩ 0))],[(2,(iU a0)),(3,(iU a1))],H0⟩=some (Eh a0 a1 r1 u2_1 x):=
 kC (.or (Jn<|.or (Jn<|.nil) (Ij<|.nil)) (SS<|.nil)) fun L=>a8 h (fun h10 h=>Jk h10<|a8 h (fun h11 h=>Jk h11<|L h) (fun h11 h=>F0 h11<|L h)) (fun h10 h=>ai (g1 h10)<|ai (g1 h10)<|ai (g1 h10)<|ai (g1 h10)<|ai (g1 h10)<|ai h10<|ai gf<|ai gf<|ai gf<|ai gf<|ai gf<|ai ff<|L h)
def Ei:List dM:=(gF 5 0 2)::(gQ 6 5)::(gF 7 0 3)::(gQ 8 7)::(gp 9 (.ca 0 50 [6,8]))::(gM 10 9)::⟨some 11,.fa 1 2,some ⟨10,true⟩,false⟩::⟨some 12,.ld none 11,some ⟨10,true⟩,false⟩::⟨some 13,.fa 1 3,some ⟨10,true⟩,false⟩::⟨some 14,.ld none 13,some ⟨10,true⟩,false⟩::⟨some 15,.ca 0 49 [12,14],some ⟨10,true⟩,false⟩::(gp 16 (.pk 10 15 (.c (.b false))))::(gM 17 16)::⟨some 18,.fa 2 2,some ⟨17,true⟩,false⟩::⟨some 19,.ld none 18,some ⟨17,true⟩,false⟩::⟨some 20,.fa 2 3,some ⟨17,true⟩,false⟩::⟨some 21,.ld none 20,some ⟨17,true⟩,false⟩::⟨some 22,.ca 0 49 [19,21],some ⟨17,true⟩,false⟩::(gp 23 (.pk 17 22 (.c (.b false))))::(gM 24 23)::⟨some 25,.fa 3 2,some ⟨24,true⟩,false⟩::⟨some 26,.ld none 25,some ⟨24,true⟩,false⟩::⟨some 27,.fa 3 3,some ⟨24,true⟩,false⟩::⟨some 28,.ld none 27,some ⟨24,true⟩,false⟩::⟨some 29,.bo .eql false 26 28,some ⟨24,true⟩,false⟩::(gp 30 (.pk 24 29 (.c (.b false))))::xi
def rE:Option Bool:=
 (lR a0.Events a1.Events).bind fun (r1:Bool)=>
 if r1=true then
  (nT a0.Vars a1.Vars).bind fun (r4:Bool)=>
  if r4=true then
   (nT a0.Taken a1.Taken).bind fun (r7:Bool)=>
   if r7=true then
    (jA a0 a1 r1 (a0.Steps==a1.Steps)).bind fun (x10:Bool)=>
    some x10
   else
    (jA a0 a1 r1 false).bind fun (x10:Bool)=>
    some x10
  else
   (jA a0 a1 r1 false).bind fun (x7:Bool)=>
   some x7
 else
  (jA a0 a1 r1 false).bind fun (x4:Bool)=>
  some x4
abbrev Ej(a0:RunT)(a1:RunT)(x:Bool):St:=⟨[(4,(.b x))],[],H0⟩
theorem CZ(x:Bool)(h:rE a0 a1=some x):lx G Ω0 E0 [4] [] Ei ⟨[(2,(.p ⟨0,2⟩ 0)),(3,(.p ⟨0,3⟩ 0))],[(2,(iU a0)),(3,(iU a1))],H0⟩=some (Ej a0 a1 x):=
 kC (du<|xB fun r1=>.or (MQ<|xB fun r4=>bt<|.or (MQ<|xB fun r7=>bt<|.or (Jn<|.jb (some 31) 14<|.ex fun (x10:Bool)=>ao (.jn ⟨[(4,(.b x10))],[],H0⟩)<|.nil) (Ij<|.jb (some 31) 14<|.ex fun (x10:Bool)=>ao (.jn ⟨[(4,(.b x10))],[],H0⟩)<|.nil)) (SS<|.jb (some 31) 14<|.ex fun (x7:Bool)=>ao (.jn ⟨[(4,(.b x7))],[],H0⟩)<|.nil)) (bf<|bf<|bf<|bf<|bf<|bf<|bf<|bf<|bf<|bf<|bf<|bf<|bf<|bf<|bf<|bf<|bf<|bf<|.jb (some 31) 14<|.ex fun (x4:Bool)=>ao (.jn ⟨[(4,(.b x4))],[],H0⟩)<|.nil)) fun L=>ai (rfl:Z0)<|ai (rfl:Z0)<|aQ h (s6 a0.Events a1.Events) fun r1 h=>a8 h (fun h3 h=>MJ h3<|aQ h (vH a0.Vars a1.Vars) fun r4 h=>ai h3<|a8 h (fun h6 h=>MJ h6<|aQ h (vH a0.Taken a1.Taken) fun r7 h=>ai h6<|a8 h (fun h9 h=>Jk h9<|aQ h (mZ a0 a1 r1 (a0.Steps==a1.Steps) [(.b (a0.Steps==a1.Steps)),(I a1.Steps),(.p ⟨0,3⟩ 3),(I a0.Steps),(.p ⟨0,2⟩ 3),(.b r7),(.b r7),(.b r7),(.l 3 (a1.Taken.map (I))),(.p ⟨0,3⟩ 2),(.l 3 (a0.Taken.map (I))),(.p ⟨0,2⟩ 2),(.b r4),(.b r4),(.b r4),(.l 3 (a1.Vars.map (I))),(.p ⟨0,3⟩ 1),(.l 3 (a0.Vars.map (I))),(.p ⟨0,2⟩ 1)]) fun x10 h=>L h) (fun h9 h=>F0 h9<|aQ h (mZ a0 a1 r1 false [.sk,.sk,.sk,.sk,.sk,(.b r7),(.b r7),(.b r7),(.l 3 (a1.Taken.map (I))),(.p ⟨0,3⟩ 2),(.l 3 (a0.Taken.map (I))),(.p ⟨0,2⟩ 2),(.b r4),(.b r4),(.b r4),(.l 3 (a1.Vars.map (I))),(.p ⟨0,3⟩ 1),(.l 3 (a0.Vars.map (I))),(.p ⟨0,2⟩ 1)]) fun x10 h=>L h)) (fun h6 h=>ai (g1 h6)<|ai (g1 h6)<|ai (g1 h6)<|ai (g1 h6)<|ai (g1 h6)<|ai h6<|ai gf<|ai gf<|ai gf<|ai gf<|ai gf<|ai ff<|aQ h (mZ a0 a1 r1 false [.sk,.sk,.sk,.sk,.sk,(.b false),(.b false),.sk,.sk,.sk,.sk,.sk,(.b r4),(.b r4),(.b r4),(.l 3 (a1.Vars.map (I))),(.p ⟨0,3⟩ 1),(.l 3 (a0.Vars.map (I))),(.p ⟨0,2⟩ 1)]) fun x7 h=>L h)) (fun h3 h=>ai (g1 h3)<|ai (g1 h3)<|ai (g1 h3)<|ai (g1 h3)<|ai (g1 h3)<|ai h3<|ai gf<|ai gf<|ai gf<|ai gf<|ai gf<|ai ff<|ai gf<|ai gf<|ai gf<|ai gf<|ai gf<|ai ff<|aQ h (mZ a0 a1 r1 false [.sk,.sk,.sk,.sk,.sk,(.b false),(.b false),.sk,.sk,.sk,.sk,.sk,(.b false),(.b false),.sk,.sk,.sk,.sk,.sk]) fun x4 h=>L h)
abbrev HT(a0:RunT)(a1:RunT)(r:Bool):aW×HP:=(.ret (.b r),H0)
def rW:Option Bool:=
 (rE a0 a1).bind fun (x1:Bool)=>
 some x1
theorem Ek(r:Bool)(h:rW a0 a1=some r):call G Ω0 E0 17 [(.a (iU a0)),(.a (iU a1))] H0=some (HT a0 a1 r):=
 aK G17 (.jb (some 5) 40<|.ex fun (x1:Bool)=>ao (.jn ⟨[(4,(.b x1))],[],H0⟩)<|.nil) fun L=>cF<|aQ h (CZ a0 a1) fun x1 h=>L h
end
section
variable (a0:(List Event))(a1:(List Event))
abbrev JH(a0:(List Event))(a1:(List Event))(r:Bool):aW×HP:=(.ret (.b r),H0)
def tz:Option Bool:=
 if (a0.length:Int)≤(a1.length:Int) then
  if a0.length≤a1.length then
   (lR a0 ((a1.take a0.length).drop 0)).bind fun (r3:Bool)=>
   some r3
  else none
 else
  some false
theorem Fp(r:Bool)(h:tz a0 a1=some r):call G Ω0 E0 18 [(.l 106 (a0.map aO)),(.l 106 (a1.map aO))] H0=some (JH a0 a1 r):=
 aK G18 (ao (.i (a0.length:Int))<|ao (.i (a1.length:Int))<|.or (tV<|ao (.i (a0.length:Int))<|bt<|ao (.n a0.length)<|ao (.l (((a1.take a0.length).drop 0).map aO))<|bt<|xB fun r3=>bt<|.nil) (MK<|.nil)) fun L=>ai (aL aO a0)<|ai (aL aO a1)<|cb h (fun h1 h=>Jj (decide_eq_true h1)<|ai (aL aO a0)<|ai (g1 (decide_eq_true h1))<|ai (rfl:(a0.length:Int)=(a0.length:Int))<|ai ((by decide):106≠0)<|ai ((gi aO (n:=4) (fun _=>rfl) a1):(a1.map aO).all (fun e=>e.nc==4)=true)<|ai (Nat.zero_le _:0≤a0.length)<|aS h fun h2 h=>ai ((by rw [List.length_map];exact h2):a0.length≤(a1.map aO).length)<|ai (yw aO a1 0 a0.length)<|ai (g1 (decide_eq_true h1))<|aQ h (s6 a0 ((a1.take a0.length).drop 0)) fun r3 h=>ai (decide_eq_true h1)<|L h) (fun h1 h=>ai (g1 (decide_eq_false h1))<|ai (g1 (decide_eq_false h1))<|ai (g1 (decide_eq_false h1))<|ai (g1 (decide_eq_false h1))<|ai (g1 (decide_eq_false h1))<|ai (g1 (decide_eq_false h1))<|ai (decide_eq_false h1)<|L h)
end
section
variable (a0:Program)(a1:(List (List Int)))(a2:Int)
abbrev C0(a0:Program)(a1:(List (List Int)))(a2:Int)(r:Bool):aW×HP:=(.ret (.b r),H0)
def qP:Option Bool:=
 (mF a0 a1 a2).bind fun (r1:(RunT×(List Level)×Int))=>
 (sC a0 a1 a2).bind fun (r3:(RunT×Int))=>
 (rk).bind fun (r5:Bool)=>
 if r5=true then
  (tX).bind fun (r8:Bool)=>
  if r8=true then
   if (r1.2.2 !=r3.2)=true then
    none
   else
    if (r1.2.2 !=0)=true then
     some ((r1.1.Events.length:Int)==0)
    else
     if (r1.1.End !=3)=true then
      (rW r1.1 r3.1).bind fun (r14:Bool)=>
      some r14
     else
      (tz r1.1.Events r3.1.Events).bind fun (r14:Bool)=>
      if r14=true then
       some (decide (r1.1.Steps≤r3.1.Steps))
      else
       none
  else
   none
 else
  none
theorem zG(r:Bool)(h:qP a0 a1 a2=some r):call G Ω0 E0 5 [(.a (ay a0)),(.l 25 (a1.map (bD 3 (I)))),(I a2)] H0=some (C0 a0 a1 a2 r):=
 aK G5 (bt<|.ex fun (r1:(RunT×(List Level)×Int))=>ao (.v (.tp [(.a (iU r1.1)),(.l 54 (r1.2.1.map av)),(I r1.2.2)]))<|dE<|.ex fun (r3:(RunT×Int))=>ao (.v (.tp [(.a (iU r3.1)),(I r3.2)]))<|du<|xB fun r5=>bt<|xB fun r8=>bt<|bf<|bt<|bt<|bt<|bf<|bf<|.or (du<|ao (.i (r1.1.Events.length:Int))<|.nil) (sg<|.or (dE<|xB fun r14=>.nil) (bf<|bt<|bt<|xB fun r14=>Jn<|.nil))) fun L=>ai tt<|ai (rfl:Z0)<|aQ h (BC a0 a1 a2) fun r1 h=>FZ<|aQ h (Gj a0 a1 a2) fun r3 h=>ai tt<|ai ff<|ai (rfl:Z0)<|ai tt<|ai (rfl:Z0)<|aQ h (Ax) fun r5 h=>FV h (fun h7 h=>ai (g0 (congrArg not h7))<|aQ h (Cd) fun r8 h=>tU (congrArg not h7)<|FV h (fun h10 h=>ai (g0 (congrArg not h10))<|ai (g0 (congrArg not h10))<|ai (g0 (congrArg not h10))<|ai (congrArg not h10)<|FV h (fun _ h=>B8 h) (fun h11 h=>ai h11<|a8 h (fun h12 h=>sZ h12<|ai (aL aO r1.1.Events)<|L h) (fun h12 h=>sZ h12<|a8 h (fun h13 h=>ai h13<|ai (rfl:Z0)<|ai (rfl:Z0)<|aQ h (Ek r1.1 r3.1) fun r14 h=>L h) (fun h13 h=>ai h13<|ai (rfl:Z0)<|ai (rfl:Z0)<|aQ h (Fp r1.1.Events r3.1.Events) fun r14 h=>FV h (fun h16 h=>Jk h16<|L h) (fun _ h=>B8 h))))) (fun _ h=>B8 h)) (fun _ h=>B8 h)
end
end
end Go.Proofs.YtdpjofmmokaobaaGreat.A
