/- Functions of the program as plain functions, by program. -/
import Derived.Test.YtkkkkondjclcnaaGreatTypes
import Derived.Test.YtkkkkondjclcnaaGreatLift
import Derived.Test.YtkkkkondjclcnaaGreatRawF
import Derived.Test.YtkkkkondjclcnaaGreatFR
set_option linter.all false
set_option maxRecDepth 100000
namespace Go.Proofs.YtkkkkondjclcnaaGreat.A
open Go
noncomputable section
variable [Lp]
section
variable (a0:Level)(a1:Program)
abbrev HZ(a0:Level)(a1:Program)(r:Bool):bm×HP:=(.ret (.b r),H0)
def pE:Option Bool:=
 (sI a1.ah a0).bind fun (r1:Bool)=>
 some (!r1)
theorem D1(r:Bool)(h:pE a0 a1=some r):call G Ω0 E0 99 [(.a [(.l 4 (a0.Readers.map AV.b)),(.l 4 (a0.Writers.map AV.b))]),(.e (.a (ar a1)) 0)] H0=some (HZ a0 a1 r):=
 aW G99 (bt<|xB fun r1=>.nil) fun L=>et<|aU h (FX a1.ah a0) fun r1 h=>L h
end
section
variable (a0:(List Level))(a1:Program)
def ke(v0_8:Nat):Option (Nat⊕(Nat⊕(Nat×Bool))):=
 if (v0_8:Int)<(a0.length:Int) then
  (a0[v0_8]?).bind fun (y2:Level)=>
  (pE y2 a1).bind fun (r4:Bool)=>
  if r4=true then
   some (.inr (.inl v0_8))
  else
   if IntKind.i64.wrap ((v0_8:Int)+1)=((v0_8+1:Nat):Int) then
    some (.inl (v0_8+1))
   else none
 else
  some (.inr (.inr (v0_8,decide ((v0_8:Int)<(a0.length:Int)))))
abbrev rP(v:Nat):St:=⟨[(0,(.l 45 (a0.map aq))),(1,(.f 99 [(.e (.a (ar a1)) 0)])),(7,(I (a0.length:Int))),(8,(I (v:Int)))],[],H0⟩
abbrev fZ(x:(Nat⊕(Nat×Bool))):aH×St:=match x with | .inl z1=>(.ret,⟨[(4,(I (z1:Int)))],[],H0⟩) | .inr (z1,z2)=>((.ex 0),⟨[(0,(.l 45 (a0.map aq))),(1,(.f 99 [(.e (.a (ar a1)) 0)])),(7,(I (a0.length:Int))),(8,(I (z1:Int))),(9,(.b z2))],[],H0⟩)
theorem qT(v0_8:Nat)(o:Nat⊕(Nat⊕(Nat×Bool)))(h:ke a0 a1 v0_8=some o):bu E0 QV (rP a0 a1) (fZ a0 a1) v0_8 o:=
 bH (.or (bt<|ao (.n v0_8)<|.ex fun (y2:Level)=>ao (.v (.a [(.l 4 (y2.Readers.map AV.b)),(.l 4 (y2.Writers.map AV.b))]))<|xB fun r4=>oN (ao (.i ((v0_8+1:Nat):Int))<|.nil)) (bf<|.nil)) fun L=>bL h (fun h1 h=>ai (av h1)<|ai (rI v0_8)<|cb h fun y2 h3 h=>ai (aD aq h3)<|aU h (D1 y2 a1) fun r4 h=>bz h (fun h6 h=>ai h6<|L h) (fun h6 h=>ai h6<|aQ h fun w7 h=>ai w7<|L h)) (fun h1 h=>ai (aw h1)<|L h)
abbrev sD(a0:(List Level))(a1:Program)(r:Int):bm×HP:=(.ret (I r),H0)
def lu:Option Int:=
 (lp (fun v=>ke a0 a1 v) 0).bind fun (x1:(Nat⊕(Nat×Bool)))=>match x1 with
 | .inl ya_2=>
  some (ya_2:Int)
 | .inr yb_2=>
  some (-1)
theorem qU(r:Int)(h:lu a0 a1=some r):call G Ω0 E0 142 [(.l 45 (a0.map aq)),(.f 99 [(.e (.a (ar a1)) 0)])] H0=some (sD a0 a1 r):=
 aW ai0 (ao (.i (a0.length:Int))<|.or (.ex fun (ya_2:Nat)=>ao (.bT (fZ a0 a1 (.inl ya_2)))<|.nil) (.ex fun (yb_2:(Nat×Bool))=>ao (.bT (fZ a0 a1 (.inr yb_2)))<|.nil)) fun L=>ai (aC aq a0)<|dA h (ei (qT a0 a1) 0) (fun ya_2 h=>L h) (fun yb_2 h=>L h)
abbrev qV(a0:(List Level))(a1:Program)(r:Bool):bm×HP:=(.ret (.b r),H0)
def dV:Option Bool:=
 (lu a0 a1).bind fun (r1:Int)=>
 some (decide (0≤r1))
theorem iY(r:Bool)(h:dV a0 a1=some r):call G Ω0 E0 101 [(.l 45 (a0.map aq)),(.f 99 [(.e (.a (ar a1)) 0)])] H0=some (qV a0 a1 r):=
 aW aiw (xI fun r1=>.nil) fun L=>aU h (qU a0 a1) fun r1 h=>L h
def Gf:List cF:=(gF 13 0 3)::(gQ 14 13)::(gl 15 14)::(gF 16 5 2)::(gQ 17 16)::(gl 18 17)::(gB 19 .neq 15 18)::(gM 20 19)::⟨some 21,.fa 1 3,some ⟨20,false⟩,false⟩::⟨some 22,.ld none 21,some ⟨20,false⟩,false⟩::⟨some 23,.ln false 22,some ⟨20,false⟩,false⟩::⟨some 24,.fa 6 2,some ⟨20,false⟩,false⟩::⟨some 25,.ld none 24,some ⟨20,false⟩,false⟩::⟨some 26,.ln false 25,some ⟨20,false⟩,false⟩::⟨some 27,.bo .neq false 23 26,some ⟨20,false⟩,false⟩::(gp 28 (.pk 20 (.c (.b true)) 27))::(gM 29 28)::⟨some 30,.fa 0 3,some ⟨29,false⟩,false⟩::⟨some 31,.ld none 30,some ⟨29,false⟩,false⟩::⟨some 32,.mv 6,some ⟨29,false⟩,false⟩::⟨some 33,.c2 101 [31,32],some ⟨29,false⟩,false⟩::(gp 34 (.pk 29 (.c (.b true)) 33))::(gM 35 34)::⟨some 36,.fa 1 3,some ⟨35,false⟩,false⟩::⟨some 37,.ld none 36,some ⟨35,false⟩,false⟩::⟨some 38,.mv 6,some ⟨35,false⟩,false⟩::⟨some 39,.c2 101 [37,38],some ⟨35,false⟩,false⟩::(gp 40 (.pk 35 (.c (.b true)) 39))::[]
end
section
variable (a0:Program)(a1:aM)
def oF:Option Bool:=
 if ((a1.Vars.length:Int) !=(a0.Vars.length:Int))=true then
  some true
 else
  if ((a1.Funcs.length:Int) !=(a0.Funcs.length:Int))=true then
   some true
  else
   (dV a1.Vars a0).bind fun (r6:Bool)=>
   if r6=true then
    some true
   else
    (dV a1.Funcs a0).bind fun (r9:Bool)=>
    some r9
abbrev yN(a0:Program)(a1:aM)(x:Bool):St:=⟨[(40,(.b x))],[],H0⟩
theorem E2(x:Bool)(h:oF a0 a1=some x):oX G Ω0 E0 [40] [] Gf ⟨[(2,(.e (.a (ar a0)) 0)),(3,(.p ⟨0,3⟩ 0)),(6,(.f 99 [(.e (.a (ar a0)) 0)]))],[(3,[(.l 45 (a1.Vars.map aq)),(.l 45 (a1.Funcs.map aq))])],H0⟩=some (yN a0 a1 x):=
 oJ (bt<|ao (.i (a1.Vars.length:Int))<|ao (.i (a0.Vars.length:Int))<|.or (bf<|bf<|bf<|bf<|bf<|bf<|bf<|bt<|bf<|bf<|bf<|bf<|bt<|bf<|bf<|bf<|bf<|bt<|.nil) (mD<|ao (.i (a1.Funcs.length:Int))<|eF<|ao (.i (a0.Funcs.length:Int))<|vV<|.or (TC<|.nil) (pj<|xB fun r6=>bf<|.or (N8<|.nil) (pj<|xB fun r9=>bf<|.nil)))) fun L=>ai (rfl:Z0)<|ai (aC aq a1.Vars)<|ai (aC cn a0.Vars)<|bz h (fun h4 h=>eD h4<|eD h4<|lJ h4<|ju<|ju<|ai tt<|ju<|ju<|ai tt<|L h) (fun h4 h=>Az h4<|ai (aC aq a1.Funcs)<|eD h4<|ai (aC ct a0.Funcs)<|lJ h4<|bz h (fun h5 h=>eD h5<|lJ h5<|ju<|ju<|ai tt<|L h) (fun h5 h=>Rd h5<|aU h (iY a1.Vars a0) fun r6 h=>ai h5<|bz h (fun h8 h=>N7 h8<|L h) (fun h8 h=>Rd h8<|aU h (iY a1.Funcs a0) fun r9 h=>ai h8<|L h)))
abbrev KK(a0:Program)(a1:aM)(r:Int):bm×HP:=(.ret (I r),H0)
def my:Option Int:=
 (oO a0).bind fun (r1:Int)=>
 if (r1 !=0)=true then
  some r1
 else
  (oF a0 a1).bind fun (x4:Bool)=>
  if x4=true then
   some 1
  else
   some 0
theorem yO(r:Int)(h:my a0 a1=some r):call G Ω0 E0 38 [(.a (ar a0)),(.a [(.l 45 (a1.Vars.map aq)),(.l 45 (a1.Funcs.map aq))])] H0=some (KK a0 a1 r):=
 aW G38 (bt<|xI fun r1=>oN (.jb (some 13) 27<|.ex fun (x4:Bool)=>ao (.jn (yN a0 a1 x4))<|oN (.nil))) fun L=>bW<|ai (rfl:Z0)<|aU h (ym a0) fun r1 h=>bz h (fun h3 h=>ai h3<|L h) (fun h3 h=>nI h3<|aU h (E2 a0 a1) fun x4 h=>bz h (fun h6 h=>ai h6<|L h) (fun h6 h=>ai h6<|L h))
end
section
variable (a0:Level)(a1:Level)
abbrev MZ(a0:Level)(a1:Level)(r:Bool):bm×HP:=(.ret (.b r),H0)
def qW:Option Bool:=
 (fG a0 a1).bind fun (r1:Bool)=>
 if r1=true then
  (fG a1 a0).bind fun (r4:Bool)=>
  some r4
 else
  some false
theorem H8(r:Bool)(h:qW a0 a1=some r):call G Ω0 E0 39 [(.a [(.l 4 (a0.Readers.map AV.b)),(.l 4 (a0.Writers.map AV.b))]),(.a [(.l 4 (a1.Readers.map AV.b)),(.l 4 (a1.Writers.map AV.b))])] H0=some (MZ a0 a1 r):=
 aW G39 (dG<|xB fun r1=>.or (pj<|xB fun r4=>bt<|.nil) (LH<|.nil)) fun L=>Iz<|aU h (lR a0 a1) fun r1 h=>bz h (fun h3 h=>ai (g1 h3)<|ai (rfl:Z0)<|ai (g1 h3)<|ai (rfl:Z0)<|ai (g1 h3)<|aU h (lR a1 a0) fun r4 h=>ai h3<|L h) (fun h3 h=>Da h3<|L h)
end
section
variable (a0:Program)(a1:aM)(a2:ax)
abbrev KL(a0:Program)(r:(aM×Int)):bm×HP:=(.ret (.tp [(.a [(.l 45 (r.1.Vars.map aq)),(.l 45 (r.1.Funcs.map aq))]),(I r.2)]),H0)
def sP:Option (aM×Int):=
 (oO a0).bind fun (r1:Int)=>
 if (r1 !=0)=true then
  some ((⟨([]:List Level),([]:List Level)⟩:aM),r1)
 else
  (na a0).bind fun (r4:aM)=>
  some (r4,0)
theorem Gg(r:(aM×Int))(h:sP a0=some r):call G Ω0 E0 7 [(.a (ar a0))] H0=some (KL a0 r):=
 aW G7 (bt<|xI fun r1=>.or (eF<|.nil) (bf<|bt<|.ex fun (r4:aM)=>ao (.v (.a [(.l 45 (r4.Vars.map aq)),(.l 45 (r4.Funcs.map aq))]))<|dG<|.nil)) fun L=>bW<|ai (rfl:Z0)<|aU h (ym a0) fun r1 h=>bz h (fun h3 h=>Tx h3<|L h) (fun h3 h=>nI h3<|aU h (Jf a0) fun r4 h=>PA<|L h)
abbrev Qc(a0:Program)(a1:aM)(a2:ax)(r:(Level×Int)):bm×HP:=(.ret (.tp [(.a [(.l 4 (r.1.Readers.map AV.b)),(.l 4 (r.1.Writers.map AV.b))]),(I r.2)]),H0)
def xy:Option (Level×Int):=
 (my a0 a1).bind fun (r1:Int)=>
 if (r1 !=0)=true then
  some ((⟨([]:List Bool),([]:List Bool)⟩:Level),r1)
 else
  (jI a2 (a0.Vars.length:Int)).bind fun (r4:Int)=>
  if (r4 !=0)=true then
   some ((⟨([]:List Bool),([]:List Bool)⟩:Level),r4)
  else
   (iX a0 a1.Vars a2).bind fun (r7:Level)=>
   some (r7,0)
theorem KM(r:(Level×Int))(h:xy a0 a1 a2=some r):call G Ω0 E0 9 [(.a (ar a0)),(.a [(.l 45 (a1.Vars.map aq)),(.l 45 (a1.Funcs.map aq))]),(.a (dw a2))] H0=some (Qc a0 a1 a2 r):=
 aW G9 (dG<|xI fun r1=>.or (eF<|.nil) (bf<|bt<|bt<|ao (.i (a0.Vars.length:Int))<|xI fun r4=>.or (eF<|.nil) (bf<|bt<|bt<|bt<|.ex fun (r7:Level)=>ao (.v (.a [(.l 4 (r7.Readers.map AV.b)),(.l 4 (r7.Writers.map AV.b))]))<|dG<|.nil))) fun L=>bW<|bW<|uT<|aU h (yO a0 a1) fun r1 h=>bz h (fun h3 h=>Tx h3<|L h) (fun h3 h=>IA h3<|ai (aC cn a0.Vars)<|aU h (pq a2 (a0.Vars.length:Int)) fun r4 h=>bz h (fun h6 h=>Tx h6<|L h) (fun h6 h=>ai h6<|uT<|ai (rfl:Z0)<|aU h (F1 a0 a1.Vars a2) fun r7 h=>PA<|L h))
end
end
end Go.Proofs.YtkkkkondjclcnaaGreat.A
