/- Functions of the program as plain functions, by program. -/
import Derived.Test.YtkkkkondjclcnaaGreatTypes
import Derived.Test.YtkkkkondjclcnaaGreatLift
import Derived.Test.YtkkkkondjclcnaaGreatFV
import Derived.Test.YtkkkkondjclcnaaGreatFW
set_option linter.all false
set_option maxRecDepth 100000
namespace Go.Proofs.YtkkkkondjclcnaaGreat.A
open Go
noncomputable section
variable [Lp]
section
variable (a0:Program)(a1:Int)(a2:Bool)(a3:(List (List Int)))(a4:(List Event))(r1:((List (List Int))×Int))(r3:((List Event)×Int))(w1_1:Int)(w2_1:Int)(v0_17:(List (List Int)))(v0_19:Nat)(x16:(Bool×(List (List Int))×Nat))(w5_1:(List Event))(r21:Bool)(w0_1:Int)
abbrev KE(r:Bool):Prop:=call G Ω0 E0 25 [] H0=some (.ret (.b r),H0)
def wU:Option Bool:=some true
theorem Ga(r:Bool)(h:wU=some r):KE r:=by
 obtain rfl:=aa h
 exact tT (nR 100000) E0 25 [] H0 _ (by kernel_rfl)
def fh(a4:(List Event))(r1:((List (List Int))×Int))(r3:((List Event)×Int))(w1_1:Int)(w2_1:Int)(v0_17:(List (List Int)))(v0_19:Nat):Option (((List (List Int))×Nat)⊕(Bool×(List (List Int))×Nat)):=
 if (v0_19:Int)<(a3.length:Int) then
  if (w1_1==0)=true then
   (uq a0 a1 a2 (v0_19:Int)).bind fun (r18:Bool)=>
   if r18=true then
    (a3[v0_19]?).bind fun (y21:(List Int))=>
    if v0_17.length + [y21].length≤1000000000 then
     if IntKind.i64.wrap ((v0_19:Int)+1)=((v0_19+1:Nat):Int) then
      some (.inl (v0_17++[y21],v0_19+1))
     else none
    else none
   else
    if v0_17.length+([([]:List Int)]).length≤1000000000 then
     if IntKind.i64.wrap ((v0_19:Int)+1)=((v0_19+1:Nat):Int) then
      some (.inl (v0_17++([([]:List Int)]),v0_19+1))
     else none
    else none
  else
   some (.inr (w1_1==0,v0_17,v0_19))
 else
  some (.inr (false,v0_17,v0_19))
abbrev HW(v:((List (List Int))×Nat)):St:=⟨[(1,(I a1)),(2,(.b a2)),(3,(.l 25 (a3.map (bc 3 (I))))),(4,(.l 125 (a4.map aH))),(5,(.p ⟨0,5⟩ 0)),(11,(.l 25 (r1.1.map (bc 3 (I))))),(12,(I r1.2)),(13,(.l 125 (r3.1.map aH))),(14,(I r3.2)),(15,(I w1_1)),(16,(I w2_1)),(17,(.o 25 (v.1.map (bc 3 (I))))),(18,(.l 125 (([]:List Event).map aH))),(19,(I (v.2:Int)))],[(5,(ar a0))],H0⟩
abbrev zN(x:(Bool×(List (List Int))×Nat)):aI×St:=((.ex 0),⟨[(1,(I a1)),(2,(.b a2)),(3,(.l 25 (a3.map (bc 3 (I))))),(4,(.l 125 (a4.map aH))),(5,(.p ⟨0,5⟩ 0)),(11,(.l 25 (r1.1.map (bc 3 (I))))),(12,(I r1.2)),(13,(.l 125 (r3.1.map aH))),(14,(I r3.2)),(15,(I w1_1)),(16,(I w2_1)),(17,(.o 25 (x.2.1.map (bc 3 (I))))),(18,(.l 125 (([]:List Event).map aH))),(19,(I (x.2.2:Int))),(70,(.b x.1))],[(5,(ar a0))],H0⟩)
theorem Gb(o:((List (List Int))×Nat)⊕(Bool×(List (List Int))×Nat))(h:fh a0 a1 a2 a3 a4 r1 r3 w1_1 w2_1 v0_17 v0_19=some o):bz E0 XA (HW a0 a1 a2 a3 a4 r1 r3 w1_1 w2_1) (zN a0 a1 a2 a3 a4 r1 r3 w1_1 w2_1) (v0_17,v0_19) o:=
 bG (ao (.i (a3.length:Int))<|.or (iu<|.or (en<|xB fun r18=>.or (bt<|ao (.n v0_19)<|.ex fun (y21:(List Int))=>ao (.v (.l 3 (y21.map (I))))<|ao (.l ([y21].map (bc 3 (I))))<|ao (.l ((v0_17++[y21]).map (bc 3 (I))))<|ao (.i ((v0_19+1:Nat):Int))<|.nil) (bf<|ao (.l (([([]:List Int)]).map (bc 3 (I))))<|ao (.l ((v0_17++([([]:List Int)])).map (bc 3 (I))))<|ao (.i ((v0_19+1:Nat):Int))<|.nil)) (bf<|.nil)) (N2<|.nil)) fun L=>ai (aC (bc 3 (I)) a3)<|bP h (fun h16 h=>nX (av h16)<|bI h (fun h17 h=>kP h17<|aW h (Kz a0 a1 a2 (v0_19:Int)) fun r18 h=>bI h (fun h20 h=>ai h20<|ai (rI v0_19)<|bR h fun y21 h22 h=>ai (aD (bc 3 (I)) h22)<|ai (rfl:[(.l 3 (y21.map (I)))]=[y21].map (bc 3 (I)))<|ai ff<|aJ h fun h23 h=>ai ((ir (bc 3 (I)) (n:=1) (fun _=>rfl) [y21]):([y21].map (bc 3 (I))).all (fun e=>e.nc==1)=true)<|ai ((la h23 (by decide)):((v0_17.map (bc 3 (I))).length+([y21].map (bc 3 (I))).length)*24≤140737488355328)<|ai ((lf h23):(v0_17.map (bc 3 (I))).length+([y21].map (bc 3 (I))).length≤maxLen)<|ai (cI.symm:v0_17.map (bc 3 (I))++[y21].map (bc 3 (I))=(v0_17++[y21]).map (bc 3 (I)))<|aJ h fun w24 h=>ai w24<|L h) (fun h20 h=>ai h20<|ai (rfl:[(.l 3 (([]:List Int).map (I)))]=([([]:List Int)]).map (bc 3 (I)))<|ai ff<|aJ h fun h21 h=>ai ((ir (bc 3 (I)) (n:=1) (fun _=>rfl) ([([]:List Int)])):(([([]:List Int)]).map (bc 3 (I))).all (fun e=>e.nc==1)=true)<|ai ((la h21 (by decide)):((v0_17.map (bc 3 (I))).length+(([([]:List Int)]).map (bc 3 (I))).length)*24≤140737488355328)<|ai ((lf h21):(v0_17.map (bc 3 (I))).length+(([([]:List Int)]).map (bc 3 (I))).length≤maxLen)<|ai (cI.symm:v0_17.map (bc 3 (I))++([([]:List Int)]).map (bc 3 (I))=(v0_17++([([]:List Int)])).map (bc 3 (I)))<|aJ h fun w22 h=>ai w22<|L h)) (fun h17 h=>ai h17<|L h)) (fun h16 h=>dt (aw h16)<|ai (aw h16)<|ai ff<|L h)
def yA:List cN:=(gM 111 110)::⟨some 112,.mv 13,some ⟨111,true⟩,false⟩::⟨some 113,.mv 18,some ⟨111,true⟩,false⟩::⟨some 114,.ca 0 27 [112,113],some ⟨111,true⟩,false⟩::(gk 115 111 114 (.c (.b false)))::(gA 10 115)::[]
def jH(r1:((List (List Int))×Int))(r3:((List Event)×Int))(w1_1:Int)(w2_1:Int)(x16:(Bool×(List (List Int))×Nat))(w5_1:(List Event))(r21:Bool)(u2_1:Bool):Option Bool:=
 if u2_1=true then
  (rQ r3.1 w5_1).bind fun (r29:Bool)=>
  some r29
 else
  some false
abbrev me(r1:((List (List Int))×Int))(r3:((List Event)×Int))(w1_1:Int)(w2_1:Int)(x16:(Bool×(List (List Int))×Nat))(w5_1:(List Event))(r21:Bool)(u2_1:Bool)(x:Bool):St:=⟨[(10,(.b x))],[],H0⟩
theorem nO(u2_1:Bool)(w:List AV)(x:Bool)(h:jH r1 r3 w1_1 w2_1 x16 w5_1 r21 u2_1=some x):rY G Ω0 E0 [10] [] yA ⟨[(110,(.b u2_1)),(109,(W w 0)),(108,(W w 1)),(107,(W w 2)),(106,(W w 3)),(105,(W w 4)),(104,(W w 5)),(103,(W w 6)),(102,(W w 7)),(101,(W w 8)),(100,(W w 9)),(99,(W w 10)),(98,(W w 11)),(97,(W w 12)),(96,(.b r21)),(95,(.b r21)),(11,(.l 25 (r1.1.map (bc 3 (I))))),(12,(I r1.2)),(13,(.l 125 (r3.1.map aH))),(14,(I r3.2)),(15,(I w1_1)),(16,(I w2_1)),(17,(.o 25 (x16.2.1.map (bc 3 (I))))),(18,(.l 125 (w5_1.map aH)))],[],H0⟩=some (me r1 r3 w1_1 w2_1 x16 w5_1 r21 u2_1 x):=
 ss (.or (iu<|xB fun r29=>bt<|.nil) (N2<|.nil)) fun L=>bI h (fun h28 h=>N1 h28<|aW h (EO r3.1 w5_1) fun r29 h=>ai h28<|L h) (fun h28 h=>Ff h28<|L h)
def Gc:List cN:=(ga 95 25 [])::(gM 96 95)::⟨some 97,.mv 12,some ⟨96,true⟩,false⟩::⟨some 98,.mv 15,some ⟨96,true⟩,false⟩::⟨some 99,.bo .eql false 97 98,some ⟨96,true⟩,false⟩::(gk 100 96 99 (.c (.b false)))::(gM 101 100)::⟨some 102,.mv 11,some ⟨101,true⟩,false⟩::⟨some 103,.mv 17,some ⟨101,true⟩,false⟩::⟨some 104,.ca 0 26 [102,103],some ⟨101,true⟩,false⟩::(gk 105 101 104 (.c (.b false)))::(gM 106 105)::⟨some 107,.mv 14,some ⟨106,true⟩,false⟩::⟨some 108,.mv 16,some ⟨106,true⟩,false⟩::⟨some 109,.bo .eql false 107 108,some ⟨106,true⟩,false⟩::(gk 110 106 109 (.c (.b false)))::yA
def tu:Option Bool:=
 (wU).bind fun (r21:Bool)=>
 if r21=true then
  if (r1.2==w1_1)=true then
   (sU r1.1 x16.2.1).bind fun (r25:Bool)=>
   if r25=true then
    (jH r1 r3 w1_1 w2_1 x16 w5_1 r21 (r3.2==w2_1)).bind fun (x28:Bool)=>
    some x28
   else
    (jH r1 r3 w1_1 w2_1 x16 w5_1 r21 false).bind fun (x28:Bool)=>
    some x28
  else
   (jH r1 r3 w1_1 w2_1 x16 w5_1 r21 false).bind fun (x25:Bool)=>
   some x25
 else
  (jH r1 r3 w1_1 w2_1 x16 w5_1 r21 false).bind fun (x24:Bool)=>
  some x24
abbrev yB(r1:((List (List Int))×Int))(r3:((List Event)×Int))(w1_1:Int)(w2_1:Int)(x16:(Bool×(List (List Int))×Nat))(w5_1:(List Event))(x:Bool):St:=⟨[(10,(.b x))],[],H0⟩
theorem EP(x:Bool)(h:tu r1 r3 w1_1 w2_1 x16 w5_1=some x):rY G Ω0 E0 [10] [] Gc ⟨[(11,(.l 25 (r1.1.map (bc 3 (I))))),(12,(I r1.2)),(13,(.l 125 (r3.1.map aH))),(14,(I r3.2)),(15,(I w1_1)),(16,(I w2_1)),(17,(.o 25 (x16.2.1.map (bc 3 (I))))),(18,(.l 125 (w5_1.map aH)))],[],H0⟩=some (yB r1 r3 w1_1 w2_1 x16 w5_1 x):=
 ss (xB fun r21=>.or (qx<|.or (iu<|xB fun r25=>bt<|.or (qx<|.jb (some 111) 5<|.ex fun (x28:Bool)=>ao (.jn (me r1 r3 w1_1 w2_1 x16 w5_1 r21 (r3.2==w2_1) x28))<|.nil) (N2<|.jb (some 111) 5<|.ex fun (x28:Bool)=>ao (.jn (me r1 r3 w1_1 w2_1 x16 w5_1 r21 false x28))<|.nil)) (Ty<|.jb (some 111) 5<|.ex fun (x25:Bool)=>ao (.jn (me r1 r3 w1_1 w2_1 x16 w5_1 r21 false x25))<|.nil)) (bf<|bf<|bf<|bf<|bf<|bf<|bf<|bf<|bf<|bf<|bf<|bf<|.jb (some 111) 5<|.ex fun (x24:Bool)=>ao (.jn (me r1 r3 w1_1 w2_1 x16 w5_1 r21 false x24))<|.nil)) fun L=>aW h (Ga) fun r21 h=>bI h (fun h23 h=>Ff h23<|bI h (fun h24 h=>N1 h24<|aW h (F8 r1.1 x16.2.1) fun r25 h=>bq<|ai h24<|bI h (fun h27 h=>Ff h27<|aW h (nO r1 r3 w1_1 w2_1 x16 w5_1 r21 (r3.2==w2_1) [(.b (r3.2==w2_1)),(I w2_1),(I r3.2),(.b r25),(.b r25),(.b r25),(.r (.s 17)),(.l 25 (r1.1.map (bc 3 (I)))),(.b (r1.2==w1_1)),(.b (r1.2==w1_1)),(.b (r1.2==w1_1)),(I w1_1),(I r1.2)]) fun x28 h=>L h) (fun h27 h=>Ff h27<|aW h (nO r1 r3 w1_1 w2_1 x16 w5_1 r21 false [.sk,.sk,.sk,(.b r25),(.b r25),(.b r25),(.r (.s 17)),(.l 25 (r1.1.map (bc 3 (I)))),(.b (r1.2==w1_1)),(.b (r1.2==w1_1)),(.b (r1.2==w1_1)),(I w1_1),(I r1.2)]) fun x28 h=>L h)) (fun h24 h=>dt h24<|rZ h24<|ai gf<|ai gf<|ai gf<|ai ff<|aW h (nO r1 r3 w1_1 w2_1 x16 w5_1 r21 false [.sk,.sk,.sk,(.b false),(.b false),.sk,.sk,.sk,(.b (r1.2==w1_1)),(.b (r1.2==w1_1)),(.b (r1.2==w1_1)),(I w1_1),(I r1.2)]) fun x25 h=>L h)) (fun h23 h=>dt h23<|rZ h23<|ai gf<|ai gf<|ai gf<|ai ff<|ai gf<|ai gf<|ai gf<|ai ff<|aW h (nO r1 r3 w1_1 w2_1 x16 w5_1 r21 false [.sk,.sk,.sk,(.b false),(.b false),.sk,.sk,.sk,(.b false),(.b false),.sk,.sk,.sk]) fun x24 h=>L h)
def mg:Option Bool:=
 (tu r1 r3 w1_1 w2_1 x16 w5_1).bind fun (x21:Bool)=>
 some x21
abbrev tw(r1:((List (List Int))×Int))(r3:((List Event)×Int))(w1_1:Int)(w2_1:Int)(x16:(Bool×(List (List Int))×Nat))(w5_1:(List Event))(x:Bool):aI×St:=(.ret,⟨[(10,(.b x))],[],H0⟩)
theorem xc(x:Bool)(h:mg r1 r3 w1_1 w2_1 x16 w5_1=some x):run G Ω0 E0 XB ⟨[(11,(.l 25 (r1.1.map (bc 3 (I))))),(12,(I r1.2)),(13,(.l 125 (r3.1.map aH))),(14,(I r3.2)),(15,(I w1_1)),(16,(I w2_1)),(17,(.o 25 (x16.2.1.map (bc 3 (I))))),(18,(.l 125 (w5_1.map aH)))],[],H0⟩=some (tw r1 r3 w1_1 w2_1 x16 w5_1 x):=
 vu (.jb (some 95) 21<|.ex fun (x21:Bool)=>ao (.jn (yB r1 r3 w1_1 w2_1 x16 w5_1 x21))<|.nil) fun L=>aW h (EP r1 r3 w1_1 w2_1 x16 w5_1) fun x21 h=>L h
def jI:Option Bool:=
 (lp (fun v=>fh a0 a1 a2 a3 a4 r1 r3 w1_1 w2_1 v.1 v.2) (([]:List (List Int)),0)).bind fun (x16:(Bool×(List (List Int))×Nat))=>
 if (w2_1==0)=true then
  (ur a0 a1 a2 a4).bind fun (r19:(List Event))=>
  (mg r1 r3 w1_1 w2_1 x16 r19).bind fun (x21:Bool)=>
  some x21
 else
  (mg r1 r3 w1_1 w2_1 x16 ([]:List Event)).bind fun (x19:Bool)=>
  some x19
abbrev tz(a0:Program)(a1:Int)(a2:Bool)(a3:(List (List Int)))(a4:(List Event))(r1:((List (List Int))×Int))(r3:((List Event)×Int))(w1_1:Int)(w2_1:Int)(x:Bool):aI×St:=(.ret,⟨[(10,(.b x))],[],H0⟩)
theorem xd(x:Bool)(h:jI a0 a1 a2 a3 a4 r1 r3 w1_1 w2_1=some x):run G Ω0 E0 XC ⟨[(1,(I a1)),(2,(.b a2)),(3,(.l 25 (a3.map (bc 3 (I))))),(4,(.l 125 (a4.map aH))),(5,(.p ⟨0,5⟩ 0)),(11,(.l 25 (r1.1.map (bc 3 (I))))),(12,(I r1.2)),(13,(.l 125 (r3.1.map aH))),(14,(I r3.2)),(15,(I w1_1)),(16,(I w2_1))],[(5,(ar a0))],H0⟩=some (tz a0 a1 a2 a3 a4 r1 r3 w1_1 w2_1 x):=
 vu (.ex fun (x16:(Bool×(List (List Int))×Nat))=>ao (.bX (zN a0 a1 a2 a3 a4 r1 r3 w1_1 w2_1 x16))<|.or (en<|.ex fun (r19:(List Event))=>ao (.v (.l 125 (r19.map aH)))<|.fb<|.ex fun (x21:Bool)=>ao (.jJ (tw r1 r3 w1_1 w2_1 x16 r19 x21))<|.nil) (bf<|.fb<|.ex fun (x19:Bool)=>ao (.jJ (tw r1 r3 w1_1 w2_1 x16 ([]:List Event) x19))<|.nil)) fun L=>aW h (dZ (fun v=>Gb a0 a1 a2 a3 a4 r1 r3 w1_1 w2_1 v.1 v.2) (([]:List (List Int)),0)) fun x16 h=>bI h (fun h18 h=>kP h18<|aW h (KC a0 a1 a2 a4) fun r19 h=>aW h (xc r1 r3 w1_1 w2_1 x16 r19) fun x21 h=>L h) (fun h18 h=>ai h18<|aW h (xc r1 r3 w1_1 w2_1 x16 ([]:List Event)) fun x19 h=>L h)
def il(w1_1:Int):Option Bool:=
 if (w0_1==0)=true then
  (pQ a0 a4).bind fun (r14:Int)=>
  (jI a0 a1 a2 a3 a4 r1 r3 w1_1 r14).bind fun (x16:Bool)=>
  some x16
 else
  (jI a0 a1 a2 a3 a4 r1 r3 w1_1 w0_1).bind fun (x14:Bool)=>
  some x14
abbrev oT(a0:Program)(a1:Int)(a2:Bool)(a3:(List (List Int)))(a4:(List Event))(r1:((List (List Int))×Int))(r3:((List Event)×Int))(w0_1:Int)(w1_1:Int)(x:Bool):aI×St:=(.ret,⟨[(10,(.b x))],[],H0⟩)
theorem si(w1_1:Int)(x:Bool)(h:il a0 a1 a2 a3 a4 r1 r3 w0_1 w1_1=some x):run G Ω0 E0 XD ⟨[(1,(I a1)),(2,(.b a2)),(3,(.l 25 (a3.map (bc 3 (I))))),(4,(.l 125 (a4.map aH))),(5,(.p ⟨0,5⟩ 0)),(11,(.l 25 (r1.1.map (bc 3 (I))))),(12,(I r1.2)),(13,(.l 125 (r3.1.map aH))),(14,(I r3.2)),(15,(I w1_1)),(16,(I w0_1))],[(5,(ar a0))],H0⟩=some (oT a0 a1 a2 a3 a4 r1 r3 w0_1 w1_1 x):=
 vu (.or (en<|xI fun r14=>.fb<|.ex fun (x16:Bool)=>ao (.jJ (tz a0 a1 a2 a3 a4 r1 r3 w1_1 r14 x16))<|.nil) (bf<|.fb<|.ex fun (x14:Bool)=>ao (.jJ (tz a0 a1 a2 a3 a4 r1 r3 w1_1 w0_1 x14))<|.nil)) fun L=>bI h (fun h13 h=>kP h13<|aW h (DS a0 a4) fun r14 h=>aW h (xd a0 a1 a2 a3 a4 r1 r3 w1_1 r14) fun x16 h=>L h) (fun h13 h=>ai h13<|aW h (xd a0 a1 a2 a3 a4 r1 r3 w1_1 w0_1) fun x14 h=>L h)
def fO:Option Bool:=
 if (w0_1==0)=true then
  if ((a3.length:Int) !=(a0.Ins.length:Int))=true then
   (il a0 a1 a2 a3 a4 r1 r3 w0_1 1).bind fun (x13:Bool)=>
   some x13
  else
   (il a0 a1 a2 a3 a4 r1 r3 w0_1 w0_1).bind fun (x13:Bool)=>
   some x13
 else
  (il a0 a1 a2 a3 a4 r1 r3 w0_1 w0_1).bind fun (x12:Bool)=>
  some x12
abbrev oU(a0:Program)(a1:Int)(a2:Bool)(a3:(List (List Int)))(a4:(List Event))(r1:((List (List Int))×Int))(r3:((List Event)×Int))(w0_1:Int)(x:Bool):aI×St:=(.ret,⟨[(10,(.b x))],[],H0⟩)
theorem sj(x:Bool)(h:fO a0 a1 a2 a3 a4 r1 r3 w0_1=some x):run G Ω0 E0 XE ⟨[(1,(I a1)),(2,(.b a2)),(3,(.l 25 (a3.map (bc 3 (I))))),(4,(.l 125 (a4.map aH))),(5,(.p ⟨0,5⟩ 0)),(11,(.l 25 (r1.1.map (bc 3 (I))))),(12,(I r1.2)),(13,(.l 125 (r3.1.map aH))),(14,(I r3.2)),(15,(I w0_1))],[(5,(ar a0))],H0⟩=some (oU a0 a1 a2 a3 a4 r1 r3 w0_1 x):=
 vu (.or (en<|ao (.i (a3.length:Int))<|qx<|ao (.i (a0.Ins.length:Int))<|en<|.or (bt<|.fb<|.ex fun (x13:Bool)=>ao (.jJ (oT a0 a1 a2 a3 a4 r1 r3 w0_1 1 x13))<|.nil) (bf<|.fb<|.ex fun (x13:Bool)=>ao (.jJ (oT a0 a1 a2 a3 a4 r1 r3 w0_1 w0_1 x13))<|.nil)) (Ty<|.fb<|.ex fun (x12:Bool)=>ao (.jJ (oT a0 a1 a2 a3 a4 r1 r3 w0_1 w0_1 x12))<|.nil)) fun L=>bI h (fun h11 h=>dt h11<|ai (aC (bc 3 (I)) a3)<|Lu h11<|ai (aC ay a0.Ins)<|rZ h11<|bI h (fun h12 h=>ai h12<|aW h (si a0 a1 a2 a3 a4 r1 r3 w0_1 1) fun x13 h=>L h) (fun h12 h=>ai h12<|aW h (si a0 a1 a2 a3 a4 r1 r3 w0_1 w0_1) fun x13 h=>L h)) (fun h11 h=>dt h11<|dt h11<|dt h11<|ai h11<|ai ff<|aW h (si a0 a1 a2 a3 a4 r1 r3 w0_1 w0_1) fun x12 h=>L h)
abbrev KF(a0:Program)(a1:Int)(a2:Bool)(a3:(List (List Int)))(a4:(List Event))(r:Bool):bm×HP:=(.ret (.b r),H0)
def wV:Option Bool:=
 (jd a0 a1 a2 a3).bind fun (r1:((List (List Int))×Int))=>
 (mB a0 a1 a2 a4).bind fun (r3:((List Event)×Int))=>
 (oQ a0).bind fun (r5:Int)=>
 if (r5==0)=true then
  (jO a0.aj a1).bind fun (r8:Bool)=>
  if r8=true then
   (fO a0 a1 a2 a3 a4 r1 r3 r5).bind fun (x11:Bool)=>
   some x11
  else
   (fO a0 a1 a2 a3 a4 r1 r3 5).bind fun (x11:Bool)=>
   some x11
 else
  (fO a0 a1 a2 a3 a4 r1 r3 r5).bind fun (x8:Bool)=>
  some x8
theorem Gd(r:Bool)(h:wV a0 a1 a2 a3 a4=some r):call G Ω0 E0 4 [(.a (ar a0)),(I a1),(.b a2),(.l 25 (a3.map (bc 3 (I)))),(.l 125 (a4.map aH))] H0=some (KF a0 a1 a2 a3 a4 r):=
 aX G4 (bt<|.ex fun (r1:((List (List Int))×Int))=>ao (.v (.tp [(.l 25 (r1.1.map (bc 3 (I)))),(I r1.2)]))<|bt<|.ex fun (r3:((List Event)×Int))=>ao (.v (.tp [(.l 125 (r3.1.map aH)),(I r3.2)]))<|bt<|xI fun r5=>.or (uF<|xB fun r8=>en<|.or (bf<|.fb<|.ex fun (x11:Bool)=>ao (.jJ (oU a0 a1 a2 a3 a4 r1 r3 r5 x11))<|.nil) (bt<|.fb<|.ex fun (x11:Bool)=>ao (.jJ (oU a0 a1 a2 a3 a4 r1 r3 5 x11))<|.nil)) (Tr<|.fb<|.ex fun (x8:Bool)=>ao (.jJ (oU a0 a1 a2 a3 a4 r1 r3 r5 x8))<|.nil)) fun L=>su<|aW h (F0 a0 a1 a2 a3) fun r1 h=>ai (rfl:Z0)<|aW h (F5 a0 a1 a2 a4) fun r3 h=>ai (rfl:Z0)<|aW h (Co a0) fun r5 h=>bI h (fun h7 h=>VG h7<|aW h (lK a0.aj a1) fun r8 h=>rZ h7<|bI h (fun h10 h=>ai (an not h10)<|aW h (sj a0 a1 a2 a3 a4 r1 r3 r5) fun x11 h=>L h) (fun h10 h=>ai (an not h10)<|aW h (sj a0 a1 a2 a3 a4 r1 r3 5) fun x11 h=>L h)) (fun h7 h=>ev7 h7<|aW h (sj a0 a1 a2 a3 a4 r1 r3 r5) fun x8 h=>L h)
end
end
end Go.Proofs.YtkkkkondjclcnaaGreat.A
