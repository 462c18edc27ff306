/- Functions of the program as plain functions, by program. -/
import Derived.Test.YtkkkkondjclcnaaGreatTypes
import Derived.Test.YtkkkkondjclcnaaGreatLift
import Derived.Test.YtkkkkondjclcnaaGreatFT
import Derived.Test.YtkkkkondjclcnaaGreatFI
import Derived.Test.YtkkkkondjclcnaaGreatFitsF
set_option linter.all false
set_option maxRecDepth 100000
namespace Go.Proofs.YtkkkkondjclcnaaGreat.A
open Go
noncomputable section
variable [Lp]
section
variable (a0:Level)(a1:Int)(a2:Int)(a3:Level)
abbrev Jw(r:Bool):Prop:=call G Ω0 E0 16 [] H0=some (.ret (.b r),H0)
def vk:Option Bool:=some true
theorem E6(r:Bool)(h:vk=some r):Jw r:=by
 obtain rfl:=ad h
 exact tY (nD 100000) E0 16 [] H0 _ (by kernel_rfl)
def rR(w0_1:(List Bool))(w0_2:(List Bool)):Option Bool:=
 if (a1==a2)=true then
  (mz a0 (⟨w0_1,w0_2⟩:Level)).bind fun (r3:Bool)=>
  some r3
 else
  some false
abbrev vm(a0:Level)(a1:Int)(a2:Int)(w0_1:(List Bool))(w0_2:(List Bool))(x:Bool):aH×St:=(.ret,⟨[(8,(.b x))],[],H0⟩)
theorem Ab(w0_1:(List Bool))(w0_2:(List Bool))(x:Bool)(h:rR a0 a1 a2 w0_1 w0_2=some x):run G Ω0 E0 UN ⟨[(1,(I a1)),(2,(I a2)),(4,(.p ⟨0,4⟩ 0)),(7,(.p ⟨0,7⟩ 0))],[(4,[(.l 4 (a0.Readers.map AV.b)),(.l 4 (a0.Writers.map AV.b))]),(7,[(.l 4 (w0_1.map AV.b)),(.l 4 (w0_2.map AV.b))])],H0⟩=some (vm a0 a1 a2 w0_1 w0_2 x):=
 zD (.or (pj<|xB fun r3=>bt<|.nil) (LH<|.nil)) fun L=>bz h (fun h2 h=>ai (g1 h2)<|ai (rfl:Z0)<|ai (g1 h2)<|ai (rfl:Z0)<|ai (g1 h2)<|aU h (tw a0 (⟨w0_1,w0_2⟩:Level)) fun r3 h=>ai h2<|L h) (fun h2 h=>Da h2<|L h)
abbrev NS(a0:Level)(a1:Int)(a2:Int)(a3:Level)(r:Bool):bm×HP:=(.ret (.b r),H0)
def vv:Option Bool:=
 if (a2 !=0)=true then
  (rR a0 a1 a2 ([]:List Bool) ([]:List Bool)).bind fun (x2:Bool)=>
  some x2
 else
  (rR a0 a1 a2 a3.Readers a3.Writers).bind fun (x2:Bool)=>
  some x2
theorem Jy(r:Bool)(h:vv a0 a1 a2 a3=some r):call G Ω0 E0 18 [(.a [(.l 4 (a0.Readers.map AV.b)),(.l 4 (a0.Writers.map AV.b))]),(I a1),(I a2),(.a [(.l 4 (a3.Readers.map AV.b)),(.l 4 (a3.Writers.map AV.b))])] H0=some (NS a0 a1 a2 a3 r):=
 aW G18 (.or (eF<|.fb<|.ex fun (x2:Bool)=>ao (.nW (vm a0 a1 a2 ([]:List Bool) ([]:List Bool) x2))<|.nil) (bf<|.fb<|.ex fun (x2:Bool)=>ao (.nW (vm a0 a1 a2 a3.Readers a3.Writers x2))<|.nil)) fun L=>bW<|bz h (fun h1 h=>ai h1<|lL<|et<|aU h (Ab a0 a1 a2 ([]:List Bool) ([]:List Bool)) fun x2 h=>L h) (fun h1 h=>ai h1<|aU h (Ab a0 a1 a2 a3.Readers a3.Writers) fun x2 h=>L h)
def xb:List cF:=(gA 6 102)::[]
def iV(r1:(aM×Int))(r3:(Bool×Int))(r5:(Level×Int))(r7:Int)(r9:Int)(w0_1:Int)(w1_1:(List Level))(w1_2:(List Level))(w2_1:Bool)(w3_1:(List Bool))(w3_2:(List Bool))(r23:Bool)(u2_1:Bool)(u3_1:Bool):Option Bool:=
 some u3_1
abbrev kM(r1:(aM×Int))(r3:(Bool×Int))(r5:(Level×Int))(r7:Int)(r9:Int)(w0_1:Int)(w1_1:(List Level))(w1_2:(List Level))(w2_1:Bool)(w3_1:(List Bool))(w3_2:(List Bool))(r23:Bool)(u2_1:Bool)(u3_1:Bool)(x:Bool):St:=⟨[(6,(.b x))],[],H0⟩
theorem mT(r1:(aM×Int))(r3:(Bool×Int))(r5:(Level×Int))(r7:Int)(r9:Int)(w0_1:Int)(w1_1:(List Level))(w1_2:(List Level))(w2_1:Bool)(w3_1:(List Bool))(w3_2:(List Bool))(r23:Bool)(u2_1:Bool)(u3_1:Bool)(w:List AV)(x:Bool)(h:iV r1 r3 r5 r7 r9 w0_1 w1_1 w1_2 w2_1 w3_1 w3_2 r23 u2_1 u3_1=some x):oX G Ω0 E0 [6] [] xb ⟨[(102,(.b u3_1)),(101,(W w 0)),(100,(W w 1)),(99,(W w 2)),(98,(W w 3)),(97,(W w 4)),(96,(W w 5)),(95,(W w 6)),(94,(W w 7)),(93,(W w 8)),(92,(W w 9)),(91,(W w 10)),(90,(W w 11)),(89,(W w 12)),(88,(W w 13)),(87,(W w 14)),(86,(.b u2_1)),(85,(.b u2_1)),(84,(W w 15)),(83,(W w 16)),(82,(W w 17)),(81,(W w 18)),(80,(W w 19)),(79,(W w 20)),(78,(W w 21)),(77,(W w 22)),(76,(W w 23)),(75,(W w 24)),(74,(W w 25)),(73,(W w 26)),(72,(W w 27)),(71,(W w 28)),(70,(W w 29)),(69,(W w 30)),(68,(W w 31)),(67,(.b r23)),(66,(.b r23)),(7,(.p ⟨0,7⟩ 0)),(8,(I r1.2)),(9,(.b r3.1)),(10,(I r3.2)),(11,(.p ⟨0,11⟩ 0)),(12,(I r5.2)),(13,(I r7)),(14,(I r9)),(15,(I w0_1)),(16,(.p ⟨0,16⟩ 0)),(17,(.b w2_1)),(18,(.p ⟨0,18⟩ 0))],[(7,[(.l 45 (r1.1.Vars.map aq)),(.l 45 (r1.1.Funcs.map aq))]),(11,[(.l 4 (r5.1.Readers.map AV.b)),(.l 4 (r5.1.Writers.map AV.b))]),(16,[(.l 45 (w1_1.map aq)),(.l 45 (w1_2.map aq))]),(18,[(.l 4 (w3_1.map AV.b)),(.l 4 (w3_2.map AV.b))])],H0⟩=some (kM r1 r3 r5 r7 r9 w0_1 w1_1 w1_2 w2_1 w3_1 w3_2 r23 u2_1 u3_1 x):=
 oJ (.nil) fun L=>L h
def xc:List cF:=(gM 86 85)::⟨some 87,.mv 10,some ⟨86,true⟩,false⟩::⟨some 88,.mv 14,some ⟨86,true⟩,false⟩::⟨some 89,.bo .eql false 87 88,some ⟨86,true⟩,false⟩::(gk 90 86 89 (.c (.b false)))::(gM 91 90)::⟨some 92,.mv 9,some ⟨91,true⟩,false⟩::⟨some 93,.mv 17,some ⟨91,true⟩,false⟩::⟨some 94,.bo .eql true 92 93,some ⟨91,true⟩,false⟩::(gk 95 91 94 (.c (.b false)))::(gM 96 95)::⟨some 97,.ld (some 2) 11,some ⟨96,true⟩,false⟩::⟨some 98,.mv 12,some ⟨96,true⟩,false⟩::⟨some 99,.mv 15,some ⟨96,true⟩,false⟩::⟨some 100,.ld (some 2) 18,some ⟨96,true⟩,false⟩::⟨some 101,.ca 0 18 [97,98,99,100],some ⟨96,true⟩,false⟩::(gk 102 96 101 (.c (.b false)))::xb
def iW(r1:(aM×Int))(r3:(Bool×Int))(r5:(Level×Int))(r7:Int)(r9:Int)(w0_1:Int)(w1_1:(List Level))(w1_2:(List Level))(w2_1:Bool)(w3_1:(List Bool))(w3_2:(List Bool))(r23:Bool)(u2_1:Bool):Option Bool:=
 if u2_1=true then
  if (r3.2==r9)=true then
   if (r3.1==w2_1)=true then
    (vv r5.1 r5.2 w0_1 (⟨w3_1,w3_2⟩:Level)).bind fun (r35:Bool)=>
    (iV r1 r3 r5 r7 r9 w0_1 w1_1 w1_2 w2_1 w3_1 w3_2 r23 u2_1 r35).bind fun (x37:Bool)=>
    some x37
   else
    (iV r1 r3 r5 r7 r9 w0_1 w1_1 w1_2 w2_1 w3_1 w3_2 r23 u2_1 false).bind fun (x35:Bool)=>
    some x35
  else
   (iV r1 r3 r5 r7 r9 w0_1 w1_1 w1_2 w2_1 w3_1 w3_2 r23 u2_1 false).bind fun (x34:Bool)=>
   some x34
 else
  (iV r1 r3 r5 r7 r9 w0_1 w1_1 w1_2 w2_1 w3_1 w3_2 r23 u2_1 false).bind fun (x33:Bool)=>
  some x33
abbrev kN(r1:(aM×Int))(r3:(Bool×Int))(r5:(Level×Int))(r7:Int)(r9:Int)(w0_1:Int)(w1_1:(List Level))(w1_2:(List Level))(w2_1:Bool)(w3_1:(List Bool))(w3_2:(List Bool))(r23:Bool)(u2_1:Bool)(x:Bool):St:=⟨[(6,(.b x))],[],H0⟩
theorem mU(r1:(aM×Int))(r3:(Bool×Int))(r5:(Level×Int))(r7:Int)(r9:Int)(w0_1:Int)(w1_1:(List Level))(w1_2:(List Level))(w2_1:Bool)(w3_1:(List Bool))(w3_2:(List Bool))(r23:Bool)(u2_1:Bool)(w:List AV)(x:Bool)(h:iW r1 r3 r5 r7 r9 w0_1 w1_1 w1_2 w2_1 w3_1 w3_2 r23 u2_1=some x):oX G Ω0 E0 [6] [] xc ⟨[(85,(.b u2_1)),(84,(W w 0)),(83,(W w 1)),(82,(W w 2)),(81,(W w 3)),(80,(W w 4)),(79,(W w 5)),(78,(W w 6)),(77,(W w 7)),(76,(W w 8)),(75,(W w 9)),(74,(W w 10)),(73,(W w 11)),(72,(W w 12)),(71,(W w 13)),(70,(W w 14)),(69,(W w 15)),(68,(W w 16)),(67,(.b r23)),(66,(.b r23)),(7,(.p ⟨0,7⟩ 0)),(8,(I r1.2)),(9,(.b r3.1)),(10,(I r3.2)),(11,(.p ⟨0,11⟩ 0)),(12,(I r5.2)),(13,(I r7)),(14,(I r9)),(15,(I w0_1)),(16,(.p ⟨0,16⟩ 0)),(17,(.b w2_1)),(18,(.p ⟨0,18⟩ 0))],[(7,[(.l 45 (r1.1.Vars.map aq)),(.l 45 (r1.1.Funcs.map aq))]),(11,[(.l 4 (r5.1.Readers.map AV.b)),(.l 4 (r5.1.Writers.map AV.b))]),(16,[(.l 45 (w1_1.map aq)),(.l 45 (w1_2.map aq))]),(18,[(.l 4 (w3_1.map AV.b)),(.l 4 (w3_2.map AV.b))])],H0⟩=some (kN r1 r3 r5 r7 r9 w0_1 w1_1 w1_2 w2_1 w3_1 w3_2 r23 u2_1 x):=
 oJ (.or (mD<|.or (mD<|.or (Dc<|xB fun r35=>bt<|.jb (some 6) 0<|.ex fun (x37:Bool)=>ao (.jn (kM r1 r3 r5 r7 r9 w0_1 w1_1 w1_2 w2_1 w3_1 w3_2 r23 u2_1 r35 x37))<|.nil) (Rf<|.jb (some 6) 0<|.ex fun (x35:Bool)=>ao (.jn (kM r1 r3 r5 r7 r9 w0_1 w1_1 w1_2 w2_1 w3_1 w3_2 r23 u2_1 false x35))<|.nil)) (bf<|bf<|bf<|bf<|bf<|bf<|bf<|bf<|bf<|bf<|.jb (some 6) 0<|.ex fun (x34:Bool)=>ao (.jn (kM r1 r3 r5 r7 r9 w0_1 w1_1 w1_2 w2_1 w3_1 w3_2 r23 u2_1 false x34))<|.nil)) (bf<|bf<|bf<|bf<|bf<|bf<|bf<|bf<|bf<|bf<|bf<|bf<|bf<|bf<|.jb (some 6) 0<|.ex fun (x33:Bool)=>ao (.jn (kM r1 r3 r5 r7 r9 w0_1 w1_1 w1_2 w2_1 w3_1 w3_2 r23 u2_1 false x33))<|.nil)) fun L=>bz h (fun h32 h=>Da h32<|bz h (fun h33 h=>Da h33<|bz h (fun h34 h=>ai (g1 h34)<|ai (rfl:Z0)<|cU h34<|ai (rfl:Z0)<|ai (g1 h34)<|aU h (Jy r5.1 r5.2 w0_1 (⟨w3_1,w3_2⟩:Level)) fun r35 h=>ai h34<|aU h (mT r1 r3 r5 r7 r9 w0_1 w1_1 w1_2 w2_1 w3_1 w3_2 r23 u2_1 r35 [(.b r35),(.a [(.l 4 (w3_1.map AV.b)),(.l 4 (w3_2.map AV.b))]),(I w0_1),(I r5.2),(.a [(.l 4 (r5.1.Readers.map AV.b)),(.l 4 (r5.1.Writers.map AV.b))]),(.b (r3.1==w2_1)),(.b (r3.1==w2_1)),(.b (r3.1==w2_1)),(.b w2_1),(.b r3.1),(.b (r3.2==r9)),(.b (r3.2==r9)),(.b (r3.2==r9)),(I r9),(I r3.2),(W w 0),(W w 1),(W w 2),(W w 3),(W w 4),(W w 5),(W w 6),(W w 7),(W w 8),(W w 9),(W w 10),(W w 11),(W w 12),(W w 13),(W w 14),(W w 15),(W w 16)]) fun x37 h=>L h) (fun h34 h=>LG h34<|aU h (mT r1 r3 r5 r7 r9 w0_1 w1_1 w1_2 w2_1 w3_1 w3_2 r23 u2_1 false [.sk,.sk,.sk,.sk,.sk,(.b (r3.1==w2_1)),(.b (r3.1==w2_1)),(.b (r3.1==w2_1)),(.b w2_1),(.b r3.1),(.b (r3.2==r9)),(.b (r3.2==r9)),(.b (r3.2==r9)),(I r9),(I r3.2),(W w 0),(W w 1),(W w 2),(W w 3),(W w 4),(W w 5),(W w 6),(W w 7),(W w 8),(W w 9),(W w 10),(W w 11),(W w 12),(W w 13),(W w 14),(W w 15),(W w 16)]) fun x35 h=>L h)) (fun h33 h=>cU h33<|ai h33<|qp<|qp<|ai gf<|ai ff<|aU h (mT r1 r3 r5 r7 r9 w0_1 w1_1 w1_2 w2_1 w3_1 w3_2 r23 u2_1 false [.sk,.sk,.sk,.sk,.sk,(.b false),(.b false),.sk,.sk,.sk,(.b (r3.2==r9)),(.b (r3.2==r9)),(.b (r3.2==r9)),(I r9),(I r3.2),(W w 0),(W w 1),(W w 2),(W w 3),(W w 4),(W w 5),(W w 6),(W w 7),(W w 8),(W w 9),(W w 10),(W w 11),(W w 12),(W w 13),(W w 14),(W w 15),(W w 16)]) fun x34 h=>L h)) (fun h32 h=>cU h32<|ai h32<|qp<|ai gf<|ai ff<|qp<|qp<|ai gf<|ai ff<|aU h (mT r1 r3 r5 r7 r9 w0_1 w1_1 w1_2 w2_1 w3_1 w3_2 r23 u2_1 false [.sk,.sk,.sk,.sk,.sk,(.b false),(.b false),.sk,.sk,.sk,(.b false),(.b false),.sk,.sk,.sk,(W w 0),(W w 1),(W w 2),(W w 3),(W w 4),(W w 5),(W w 6),(W w 7),(W w 8),(W w 9),(W w 10),(W w 11),(W w 12),(W w 13),(W w 14),(W w 15),(W w 16)]) fun x33 h=>L h)
def E7:List cF:=(ga 66 16 [])::(gM 67 66)::⟨some 68,.mv 8,some ⟨67,true⟩,false⟩::⟨some 69,.mv 13,some ⟨67,true⟩,false⟩::⟨some 70,.bo .eql false 68 69,some ⟨67,true⟩,false⟩::(gk 71 67 70 (.c (.b false)))::(gM 72 71)::⟨some 73,.fa 0 7,some ⟨72,true⟩,false⟩::⟨some 74,.ld none 73,some ⟨72,true⟩,false⟩::⟨some 75,.fa 0 16,some ⟨72,true⟩,false⟩::⟨some 76,.ld none 75,some ⟨72,true⟩,false⟩::⟨some 77,.ca 0 17 [74,76],some ⟨72,true⟩,false⟩::(gk 78 72 77 (.c (.b false)))::(gM 79 78)::⟨some 80,.fa 1 7,some ⟨79,true⟩,false⟩::⟨some 81,.ld none 80,some ⟨79,true⟩,false⟩::⟨some 82,.fa 1 16,some ⟨79,true⟩,false⟩::⟨some 83,.ld none 82,some ⟨79,true⟩,false⟩::⟨some 84,.ca 0 17 [81,83],some ⟨79,true⟩,false⟩::(gk 85 79 84 (.c (.b false)))::xc
def sj(r1:(aM×Int))(r3:(Bool×Int))(r5:(Level×Int))(r7:Int)(r9:Int)(w0_1:Int)(w1_1:(List Level))(w1_2:(List Level))(w2_1:Bool)(w3_1:(List Bool))(w3_2:(List Bool)):Option Bool:=
 (vk).bind fun (r23:Bool)=>
 if r23=true then
  if (r1.2==r7)=true then
   (jA r1.1.Vars w1_1).bind fun (r27:Bool)=>
   if r27=true then
    (jA r1.1.Funcs w1_2).bind fun (r30:Bool)=>
    (iW r1 r3 r5 r7 r9 w0_1 w1_1 w1_2 w2_1 w3_1 w3_2 r23 r30).bind fun (x32:Bool)=>
    some x32
   else
    (iW r1 r3 r5 r7 r9 w0_1 w1_1 w1_2 w2_1 w3_1 w3_2 r23 false).bind fun (x30:Bool)=>
    some x30
  else
   (iW r1 r3 r5 r7 r9 w0_1 w1_1 w1_2 w2_1 w3_1 w3_2 r23 false).bind fun (x27:Bool)=>
   some x27
 else
  (iW r1 r3 r5 r7 r9 w0_1 w1_1 w1_2 w2_1 w3_1 w3_2 r23 false).bind fun (x26:Bool)=>
  some x26
abbrev xd(r1:(aM×Int))(r3:(Bool×Int))(r5:(Level×Int))(r7:Int)(r9:Int)(w0_1:Int)(w1_1:(List Level))(w1_2:(List Level))(w2_1:Bool)(w3_1:(List Bool))(w3_2:(List Bool))(x:Bool):St:=⟨[(6,(.b x))],[],H0⟩
theorem D7(r1:(aM×Int))(r3:(Bool×Int))(r5:(Level×Int))(r7:Int)(r9:Int)(w0_1:Int)(w1_1:(List Level))(w1_2:(List Level))(w2_1:Bool)(w3_1:(List Bool))(w3_2:(List Bool))(x:Bool)(h:sj r1 r3 r5 r7 r9 w0_1 w1_1 w1_2 w2_1 w3_1 w3_2=some x):oX G Ω0 E0 [6] [] E7 ⟨[(7,(.p ⟨0,7⟩ 0)),(8,(I r1.2)),(9,(.b r3.1)),(10,(I r3.2)),(11,(.p ⟨0,11⟩ 0)),(12,(I r5.2)),(13,(I r7)),(14,(I r9)),(15,(I w0_1)),(16,(.p ⟨0,16⟩ 0)),(17,(.b w2_1)),(18,(.p ⟨0,18⟩ 0))],[(7,[(.l 45 (r1.1.Vars.map aq)),(.l 45 (r1.1.Funcs.map aq))]),(11,[(.l 4 (r5.1.Readers.map AV.b)),(.l 4 (r5.1.Writers.map AV.b))]),(16,[(.l 45 (w1_1.map aq)),(.l 45 (w1_2.map aq))]),(18,[(.l 4 (w3_1.map AV.b)),(.l 4 (w3_2.map AV.b))])],H0⟩=some (xd r1 r3 r5 r7 r9 w0_1 w1_1 w1_2 w2_1 w3_1 w3_2 x):=
 oJ (xB fun r23=>.or (mD<|.or (Dc<|xB fun r27=>bt<|.or (Dc<|xB fun r30=>bt<|.jb (some 86) 17<|.ex fun (x32:Bool)=>ao (.jn (kN r1 r3 r5 r7 r9 w0_1 w1_1 w1_2 w2_1 w3_1 w3_2 r23 r30 x32))<|.nil) (Rf<|.jb (some 86) 17<|.ex fun (x30:Bool)=>ao (.jn (kN r1 r3 r5 r7 r9 w0_1 w1_1 w1_2 w2_1 w3_1 w3_2 r23 false x30))<|.nil)) (bf<|bf<|bf<|bf<|bf<|bf<|bf<|bf<|bf<|bf<|bf<|bf<|.jb (some 86) 17<|.ex fun (x27:Bool)=>ao (.jn (kN r1 r3 r5 r7 r9 w0_1 w1_1 w1_2 w2_1 w3_1 w3_2 r23 false x27))<|.nil)) (bf<|bf<|bf<|bf<|bf<|bf<|bf<|bf<|bf<|bf<|bf<|bf<|bf<|bf<|bf<|bf<|.jb (some 86) 17<|.ex fun (x26:Bool)=>ao (.jn (kN r1 r3 r5 r7 r9 w0_1 w1_1 w1_2 w2_1 w3_1 w3_2 r23 false x26))<|.nil)) fun L=>aU h (E6) fun r23 h=>bz h (fun h25 h=>Da h25<|bz h (fun h26 h=>PB h26<|aU h (xa r1.1.Vars w1_1) fun r27 h=>ai h26<|bz h (fun h29 h=>PB h29<|aU h (xa r1.1.Funcs w1_2) fun r30 h=>ai h29<|aU h (mU r1 r3 r5 r7 r9 w0_1 w1_1 w1_2 w2_1 w3_1 w3_2 r23 r30 [(.b r30),(.l 45 (w1_2.map aq)),(.p ⟨0,16⟩ 1),(.l 45 (r1.1.Funcs.map aq)),(.p ⟨0,7⟩ 1),(.b r27),(.b r27),(.b r27),(.l 45 (w1_1.map aq)),(.p ⟨0,16⟩ 0),(.l 45 (r1.1.Vars.map aq)),(.p ⟨0,7⟩ 0),(.b (r1.2==r7)),(.b (r1.2==r7)),(.b (r1.2==r7)),(I r7),(I r1.2)]) fun x32 h=>L h) (fun h29 h=>LG h29<|aU h (mU r1 r3 r5 r7 r9 w0_1 w1_1 w1_2 w2_1 w3_1 w3_2 r23 false [.sk,.sk,.sk,.sk,.sk,(.b r27),(.b r27),(.b r27),(.l 45 (w1_1.map aq)),(.p ⟨0,16⟩ 0),(.l 45 (r1.1.Vars.map aq)),(.p ⟨0,7⟩ 0),(.b (r1.2==r7)),(.b (r1.2==r7)),(.b (r1.2==r7)),(I r7),(I r1.2)]) fun x30 h=>L h)) (fun h26 h=>cU h26<|ai (g1 h26)<|lK h26<|qp<|qp<|ai gf<|ai ff<|aU h (mU r1 r3 r5 r7 r9 w0_1 w1_1 w1_2 w2_1 w3_1 w3_2 r23 false [.sk,.sk,.sk,.sk,.sk,(.b false),(.b false),.sk,.sk,.sk,.sk,.sk,(.b (r1.2==r7)),(.b (r1.2==r7)),(.b (r1.2==r7)),(I r7),(I r1.2)]) fun x27 h=>L h)) (fun h25 h=>cU h25<|ai h25<|qp<|qp<|ai gf<|ai ff<|qp<|qp<|ai gf<|ai ff<|aU h (mU r1 r3 r5 r7 r9 w0_1 w1_1 w1_2 w2_1 w3_1 w3_2 r23 false [.sk,.sk,.sk,.sk,.sk,(.b false),(.b false),.sk,.sk,.sk,.sk,.sk,(.b false),(.b false),.sk,.sk,.sk]) fun x26 h=>L h)
def kO(r1:(aM×Int))(r3:(Bool×Int))(r5:(Level×Int))(r7:Int)(r9:Int)(w0_1:Int)(w1_1:(List Level))(w1_2:(List Level))(w2_1:Bool)(w3_1:(List Bool))(w3_2:(List Bool)):Option Bool:=
 (sj r1 r3 r5 r7 r9 w0_1 w1_1 w1_2 w2_1 w3_1 w3_2).bind fun (x23:Bool)=>
 some x23
abbrev sn(r1:(aM×Int))(r3:(Bool×Int))(r5:(Level×Int))(r7:Int)(r9:Int)(w0_1:Int)(w1_1:(List Level))(w1_2:(List Level))(w2_1:Bool)(w3_1:(List Bool))(w3_2:(List Bool))(x:Bool):aH×St:=(.ret,⟨[(6,(.b x))],[],H0⟩)
theorem wo(r1:(aM×Int))(r3:(Bool×Int))(r5:(Level×Int))(r7:Int)(r9:Int)(w0_1:Int)(w1_1:(List Level))(w1_2:(List Level))(w2_1:Bool)(w3_1:(List Bool))(w3_2:(List Bool))(x:Bool)(h:kO r1 r3 r5 r7 r9 w0_1 w1_1 w1_2 w2_1 w3_1 w3_2=some x):run G Ω0 E0 Xr ⟨[(7,(.p ⟨0,7⟩ 0)),(8,(I r1.2)),(9,(.b r3.1)),(10,(I r3.2)),(11,(.p ⟨0,11⟩ 0)),(12,(I r5.2)),(13,(I r7)),(14,(I r9)),(15,(I w0_1)),(16,(.p ⟨0,16⟩ 0)),(17,(.b w2_1)),(18,(.p ⟨0,18⟩ 0))],[(7,[(.l 45 (r1.1.Vars.map aq)),(.l 45 (r1.1.Funcs.map aq))]),(11,[(.l 4 (r5.1.Readers.map AV.b)),(.l 4 (r5.1.Writers.map AV.b))]),(16,[(.l 45 (w1_1.map aq)),(.l 45 (w1_2.map aq))]),(18,[(.l 4 (w3_1.map AV.b)),(.l 4 (w3_2.map AV.b))])],H0⟩=some (sn r1 r3 r5 r7 r9 w0_1 w1_1 w1_2 w2_1 w3_1 w3_2 x):=
 zD (.jb (some 66) 37<|.ex fun (x23:Bool)=>ao (.jn (xd r1 r3 r5 r7 r9 w0_1 w1_1 w1_2 w2_1 w3_1 w3_2 x23))<|.nil) fun L=>aU h (D7 r1 r3 r5 r7 r9 w0_1 w1_1 w1_2 w2_1 w3_1 w3_2) fun x23 h=>L h
end
section
variable (a0:Program)(a1:aM)(a2:ax)
def kP(r1:(aM×Int))(r3:(Bool×Int))(r5:(Level×Int))(r7:Int)(r9:Int)(w0_1:Int)(w1_1:(List Level))(w1_2:(List Level))(w2_1:Bool):Option Bool:=
 if (w0_1==0)=true then
  (kA a0 a1.Vars a2).bind fun (r21:Level)=>
  (kO r1 r3 r5 r7 r9 w0_1 w1_1 w1_2 w2_1 r21.Readers r21.Writers).bind fun (x23:Bool)=>
  some x23
 else
  (kO r1 r3 r5 r7 r9 w0_1 w1_1 w1_2 w2_1 ([]:List Bool) ([]:List Bool)).bind fun (x21:Bool)=>
  some x21
abbrev so(a0:Program)(a1:aM)(a2:ax)(r1:(aM×Int))(r3:(Bool×Int))(r5:(Level×Int))(r7:Int)(r9:Int)(w0_1:Int)(w1_1:(List Level))(w1_2:(List Level))(w2_1:Bool)(x:Bool):aH×St:=(.ret,⟨[(6,(.b x))],[],H0⟩)
theorem wq(r1:(aM×Int))(r3:(Bool×Int))(r5:(Level×Int))(r7:Int)(r9:Int)(w0_1:Int)(w1_1:(List Level))(w1_2:(List Level))(w2_1:Bool)(x:Bool)(h:kP a0 a1 a2 r1 r3 r5 r7 r9 w0_1 w1_1 w1_2 w2_1=some x):run G Ω0 E0 Xs ⟨[(3,(.p ⟨0,3⟩ 0)),(4,(.p ⟨0,4⟩ 0)),(5,(.p ⟨0,5⟩ 0)),(7,(.p ⟨0,7⟩ 0)),(8,(I r1.2)),(9,(.b r3.1)),(10,(I r3.2)),(11,(.p ⟨0,11⟩ 0)),(12,(I r5.2)),(13,(I r7)),(14,(I r9)),(15,(I w0_1)),(16,(.p ⟨0,16⟩ 0)),(17,(.b w2_1)),(18,(.p ⟨0,18⟩ 0))],[(3,(ar a0)),(4,[(.l 45 (a1.Vars.map aq)),(.l 45 (a1.Funcs.map aq))]),(5,(dw a2)),(7,[(.l 45 (r1.1.Vars.map aq)),(.l 45 (r1.1.Funcs.map aq))]),(11,[(.l 4 (r5.1.Readers.map AV.b)),(.l 4 (r5.1.Writers.map AV.b))]),(16,[(.l 45 (w1_1.map aq)),(.l 45 (w1_2.map aq))]),(18,[(.l 4 (([]:List Bool).map AV.b)),(.l 4 (([]:List Bool).map AV.b))])],H0⟩=some (so a0 a1 a2 r1 r3 r5 r7 r9 w0_1 w1_1 w1_2 w2_1 x):=
 zD (.or (mD<|.ex fun (r21:Level)=>ao (.v (.a [(.l 4 (r21.Readers.map AV.b)),(.l 4 (r21.Writers.map AV.b))]))<|dG<|.fb<|.ex fun (x23:Bool)=>ao (.nW (sn r1 r3 r5 r7 r9 w0_1 w1_1 w1_2 w2_1 r21.Readers r21.Writers x23))<|.nil) (bf<|.fb<|.ex fun (x21:Bool)=>ao (.nW (sn r1 r3 r5 r7 r9 w0_1 w1_1 w1_2 w2_1 ([]:List Bool) ([]:List Bool) x21))<|.nil)) fun L=>bz h (fun h20 h=>ai h20<|uT<|ai (rfl:Z0)<|aU h (Ge a0 a1.Vars a2) fun r21 h=>lL<|et<|aU h (wo r1 r3 r5 r7 r9 w0_1 w1_1 w1_2 w2_1 r21.Readers r21.Writers) fun x23 h=>L h) (fun h20 h=>ai h20<|aU h (wo r1 r3 r5 r7 r9 w0_1 w1_1 w1_2 w2_1 ([]:List Bool) ([]:List Bool)) fun x21 h=>L h)
def kQ(r1:(aM×Int))(r3:(Bool×Int))(r5:(Level×Int))(r7:Int)(r9:Int)(w0_1:Int)(w1_1:(List Level))(w1_2:(List Level)):Option Bool:=
 if (r9==0)=true then
  (uy a0 a1).bind fun (r18:Bool)=>
  (kP a0 a1 a2 r1 r3 r5 r7 r9 w0_1 w1_1 w1_2 r18).bind fun (x20:Bool)=>
  some x20
 else
  (kP a0 a1 a2 r1 r3 r5 r7 r9 w0_1 w1_1 w1_2 false).bind fun (x18:Bool)=>
  some x18
abbrev sr(a0:Program)(a1:aM)(a2:ax)(r1:(aM×Int))(r3:(Bool×Int))(r5:(Level×Int))(r7:Int)(r9:Int)(w0_1:Int)(w1_1:(List Level))(w1_2:(List Level))(x:Bool):aH×St:=(.ret,⟨[(6,(.b x))],[],H0⟩)
theorem wu(r1:(aM×Int))(r3:(Bool×Int))(r5:(Level×Int))(r7:Int)(r9:Int)(w0_1:Int)(w1_1:(List Level))(w1_2:(List Level))(x:Bool)(h:kQ a0 a1 a2 r1 r3 r5 r7 r9 w0_1 w1_1 w1_2=some x):run G Ω0 E0 Xt ⟨[(3,(.p ⟨0,3⟩ 0)),(4,(.p ⟨0,4⟩ 0)),(5,(.p ⟨0,5⟩ 0)),(7,(.p ⟨0,7⟩ 0)),(8,(I r1.2)),(9,(.b r3.1)),(10,(I r3.2)),(11,(.p ⟨0,11⟩ 0)),(12,(I r5.2)),(13,(I r7)),(14,(I r9)),(15,(I w0_1)),(16,(.p ⟨0,16⟩ 0)),(17,(.b false)),(18,(.p ⟨0,18⟩ 0))],[(3,(ar a0)),(4,[(.l 45 (a1.Vars.map aq)),(.l 45 (a1.Funcs.map aq))]),(5,(dw a2)),(7,[(.l 45 (r1.1.Vars.map aq)),(.l 45 (r1.1.Funcs.map aq))]),(11,[(.l 4 (r5.1.Readers.map AV.b)),(.l 4 (r5.1.Writers.map AV.b))]),(16,[(.l 45 (w1_1.map aq)),(.l 45 (w1_2.map aq))]),(18,[(.l 4 (([]:List Bool).map AV.b)),(.l 4 (([]:List Bool).map AV.b))])],H0⟩=some (sr a0 a1 a2 r1 r3 r5 r7 r9 w0_1 w1_1 w1_2 x):=
 zD (.or (eF<|xB fun r18=>.fb<|.ex fun (x20:Bool)=>ao (.nW (so a0 a1 a2 r1 r3 r5 r7 r9 w0_1 w1_1 w1_2 r18 x20))<|.nil) (bf<|.fb<|.ex fun (x18:Bool)=>ao (.nW (so a0 a1 a2 r1 r3 r5 r7 r9 w0_1 w1_1 w1_2 false x18))<|.nil)) fun L=>bz h (fun h17 h=>IA h17<|aU h (KU a0 a1) fun r18 h=>aU h (wq a0 a1 a2 r1 r3 r5 r7 r9 w0_1 w1_1 w1_2 r18) fun x20 h=>L h) (fun h17 h=>ai h17<|aU h (wq a0 a1 a2 r1 r3 r5 r7 r9 w0_1 w1_1 w1_2 false) fun x18 h=>L h)
def kR(r1:(aM×Int))(r3:(Bool×Int))(r5:(Level×Int))(r7:Int)(r9:Int)(w0_1:Int):Option Bool:=
 if (r7==0)=true then
  (nm a0).bind fun (r15:aM)=>
  (kQ a0 a1 a2 r1 r3 r5 r7 r9 w0_1 r15.Vars r15.Funcs).bind fun (x17:Bool)=>
  some x17
 else
  (kQ a0 a1 a2 r1 r3 r5 r7 r9 w0_1 ([]:List Level) ([]:List Level)).bind fun (x15:Bool)=>
  some x15
abbrev ss(a0:Program)(a1:aM)(a2:ax)(r1:(aM×Int))(r3:(Bool×Int))(r5:(Level×Int))(r7:Int)(r9:Int)(w0_1:Int)(x:Bool):aH×St:=(.ret,⟨[(6,(.b x))],[],H0⟩)
theorem wv(r1:(aM×Int))(r3:(Bool×Int))(r5:(Level×Int))(r7:Int)(r9:Int)(w0_1:Int)(x:Bool)(h:kR a0 a1 a2 r1 r3 r5 r7 r9 w0_1=some x):run G Ω0 E0 Xu ⟨[(3,(.p ⟨0,3⟩ 0)),(4,(.p ⟨0,4⟩ 0)),(5,(.p ⟨0,5⟩ 0)),(7,(.p ⟨0,7⟩ 0)),(8,(I r1.2)),(9,(.b r3.1)),(10,(I r3.2)),(11,(.p ⟨0,11⟩ 0)),(12,(I r5.2)),(13,(I r7)),(14,(I r9)),(15,(I w0_1))],[(3,(ar a0)),(4,[(.l 45 (a1.Vars.map aq)),(.l 45 (a1.Funcs.map aq))]),(5,(dw a2)),(7,[(.l 45 (r1.1.Vars.map aq)),(.l 45 (r1.1.Funcs.map aq))]),(11,[(.l 4 (r5.1.Readers.map AV.b)),(.l 4 (r5.1.Writers.map AV.b))])],H0⟩=some (ss a0 a1 a2 r1 r3 r5 r7 r9 w0_1 x):=
 zD (.or (dG<|.ex fun (r15:aM)=>ao (.v (.a [(.l 45 (r15.Vars.map aq)),(.l 45 (r15.Funcs.map aq))]))<|dG<|.fb<|.ex fun (x17:Bool)=>ao (.nW (sr a0 a1 a2 r1 r3 r5 r7 r9 w0_1 r15.Vars r15.Funcs x17))<|.nil) (bf<|.fb<|.ex fun (x15:Bool)=>ao (.nW (sr a0 a1 a2 r1 r3 r5 r7 r9 w0_1 ([]:List Level) ([]:List Level) x15))<|.nil)) fun L=>bW<|bz h (fun h14 h=>nI h14<|aU h (Js a0) fun r15 h=>lL<|et<|aU h (wu a0 a1 a2 r1 r3 r5 r7 r9 w0_1 r15.Vars r15.Funcs) fun x17 h=>L h) (fun h14 h=>ai h14<|aU h (wu a0 a1 a2 r1 r3 r5 r7 r9 w0_1 ([]:List Level) ([]:List Level)) fun x15 h=>L h)
abbrev Jz(a0:Program)(a1:aM)(a2:ax)(r:Bool):bm×HP:=(.ret (.b r),H0)
def vn:Option Bool:=
 (sP a0).bind fun (r1:(aM×Int))=>
 (iP a0 a1).bind fun (r3:(Bool×Int))=>
 (xy a0 a1 a2).bind fun (r5:(Level×Int))=>
 (lX a0).bind fun (r7:Int)=>
 (pF a0 a1).bind fun (r9:Int)=>
 if (r9==0)=true then
  (eM a2 (a0.Vars.length:Int)).bind fun (r12:Int)=>
  (kR a0 a1 a2 r1 r3 r5 r7 r9 r12).bind fun (x14:Bool)=>
  some x14
 else
  (kR a0 a1 a2 r1 r3 r5 r7 r9 r9).bind fun (x12:Bool)=>
  some x12
theorem E8(r:Bool)(h:vn a0 a1 a2=some r):call G Ω0 E0 3 [(.a (ar a0)),(.a [(.l 45 (a1.Vars.map aq)),(.l 45 (a1.Funcs.map aq))]),(.a (dw a2))] H0=some (Jz a0 a1 a2 r):=
 aW G3 (bt<|.ex fun (r1:(aM×Int))=>ao (.v (.tp [(.a [(.l 45 (r1.1.Vars.map aq)),(.l 45 (r1.1.Funcs.map aq))]),(I r1.2)]))<|mD<|.ex fun (r3:(Bool×Int))=>ao (.v (.tp [(.b r3.1),(I r3.2)]))<|eF<|.ex fun (r5:(Level×Int))=>ao (.v (.tp [(.a [(.l 4 (r5.1.Readers.map AV.b)),(.l 4 (r5.1.Writers.map AV.b))]),(I r5.2)]))<|eF<|xI fun r7=>dG<|xI fun r9=>.or (eF<|ao (.i (a0.Vars.length:Int))<|xI fun r12=>.fb<|.ex fun (x14:Bool)=>ao (.nW (ss a0 a1 a2 r1 r3 r5 r7 r9 r12 x14))<|.nil) (bf<|.fb<|.ex fun (x12:Bool)=>ao (.nW (ss a0 a1 a2 r1 r3 r5 r7 r9 r9 x12))<|.nil)) fun L=>bW<|et<|aU h (Gg a0) fun r1 h=>ai tt<|lL<|et<|uT<|aU h (H9 a0 a1) fun r3 h=>uT<|ai (rfl:Z0)<|aU h (KM a0 a1 a2) fun r5 h=>ai tt<|lL<|et<|et<|ai tt<|aU h (uK a0) fun r7 h=>et<|et<|ai tt<|aU h (D5 a0 a1) fun r9 h=>bz h (fun h11 h=>IA h11<|ai (aC cn a0.Vars)<|aU h (oE a2 (a0.Vars.length:Int)) fun r12 h=>aU h (wv a0 a1 a2 r1 r3 r5 r7 r9 r12) fun x14 h=>L h) (fun h11 h=>ai h11<|aU h (wv a0 a1 a2 r1 r3 r5 r7 r9 r9) fun x12 h=>L h)
end
end
variable [Lp]
theorem Qi{p:Program}(hp:∀ f∈p.Funcs,f.Params.length≤9223372036854775807):∃ m:aM,sP p=some (m,dh p)∧(if dh p=0 then nm p else some ⟨[],[]⟩)=some m∧jA m.Vars m.Vars=some true∧jA m.Funcs m.Funcs=some true:=by
 unfold sP
 rw [Mt hp,ae]
 by_cases hc:dh p=0
 ·have h:=we hc
  have ho:=mZ hc
  have hv16:=ho.vars
  have hf5:=ho.funcs
  obtain ⟨m,m1,m2,m3⟩:=Sd h ho
  have e1:=m3.vl
  have e2:=m3.fl
  refine ⟨m,?_,by rw [aa hc,m2],wV h.small (by omega) m3.vs,wV h.small (by omega) m3.fs⟩
  rw [ab (by simp [hc]),m1,ae,hc]
 ·refine ⟨⟨[],[]⟩,by rw [aa (by simpa using hc)],by rw [ab hc],?_,?_⟩<;>exact wV (n:=0) (by simp) (by simp) (by simp)
theorem Qj{e:Int}{l:Level}(h:∃ n,n≤1000000∧bc n l)(h0:e≠0→l=⟨[],[]⟩):vv l e e l=some true:=by
 obtain ⟨n,hn,h1,h2⟩:=h
 have hs:=uz (l:=l) (m:=l) (by omega) (by omega)
 unfold vv rR
 by_cases he:e=0
 ·rw [ab (by simp [he])];simp [hs]
 ·rw [aa (by simpa using he)]
  rw [h0 he] at hs ⊢
  simp [hs]
theorem JA(p:Program)(l:aM)(x:ax)(hp:∀ f∈p.Funcs,f.Params.length≤9223372036854775807):vn p l x=some true:=by
 have hr:=VS hp
 have hb:vk=some true:=rfl
 obtain ⟨m,m1,m2,m3,m4⟩:=Qi hp
 obtain ⟨w,w1,w2,w3,w4⟩:=Qh hp l
 have hlen:p.Vars.length≤1000000∨dh p≠0:=by
  by_cases hc:dh p=0
  ·have:=(mZ hc).vars;omega
  ·exact .inr hc
 obtain ⟨fit,f1,f2⟩:∃ b,iP p l=some (b,w)∧(if w=0 then uy p l else some false)=some b:=by
  by_cases hc:dh p=0
  ·obtain ⟨b,e,b1,b2,b3⟩:=WZ hp hc l
   by_cases h0:w=0
   ·have hR:=(w4 hc).1 h0
    obtain rfl:=b2.2 hR
    obtain ⟨c,c1,c2⟩:=Ub (we hc) (mZ hc) hR
    refine ⟨b,by rw [h0,b1],?_⟩
    rw [aa h0,c1,lH.2 (c2.trans (b3 rfl).symm)]
   ·refine ⟨false,?_,by rw [ab h0]⟩
    unfold iP
    rw [w1,ae,aa (by simpa using h0)]
  ·refine ⟨false,by rw [Ua hp hc,w3 hc],by rw [w3 hc,ab hc]⟩
 obtain ⟨y,g,y1,y2,y3,y4,y5⟩:∃ (y:Level)(g:Int),xy p l x=some (y,g)∧(if w=0 then eM x (p.Vars.length:Int) else some w)=some g∧(if g=0 then kA p l.Vars x else some ⟨[],[]⟩)=some y∧(∃ n,n≤1000000∧bc n y)∧(g≠0→y=⟨[],[]⟩):=by
  unfold xy
  rw [w1,ae]
  by_cases h0:w=0
  ·have hc:dh p=0:=km fun hc=>hc ((w3 hc).symm.trans h0)
   have hR:=(w4 hc).1 h0
   have hv:=(mZ hc).vars
   have hX:eM x (p.Vars.length:Int)=some (dT p x):=yE ⟨by omega,by omega⟩
   rw [ab (by simp [h0]),F0,ae,aa h0,hX]
   by_cases he:dT p x=0
   ·obtain ⟨l1,l2⟩:=F4 (we hc) hR he
    refine ⟨_,0,by rw [ab (by simp [he]),l1];rfl,by rw [he],by rw [aa rfl,Kc (we hc) hR he],⟨_,(we hc).small,l2⟩,fun hh=>absurd rfl hh⟩
   ·exact ⟨⟨[],[]⟩,_,by rw [aa (by simpa using he)],rfl,by rw [ab he],⟨0,by simp,rfl,rfl⟩,fun _=>rfl⟩
  ·exact ⟨⟨[],[]⟩,w,by rw [aa (by simpa using h0)],by rw [ab h0],by rw [ab h0],⟨0,by simp,rfl,rfl⟩,fun _=>rfl⟩
 have hL:=Qj y4 y5
 have d3:kO (m,dh p) (fit,w) (y,g) (dh p) w g m.Vars m.Funcs fit y.Readers y.Writers=some true:=by
  simp [kO,sj,iW,iV,hb,m3,m4,hL]
 have d2:kP p l x (m,dh p) (fit,w) (y,g) (dh p) w g m.Vars m.Funcs fit=some true:=by
  unfold kP
  by_cases h0:g=0
  ·rw [aa h0] at y3
   rw [aa (by simpa using h0),y3,ae,d3];rfl
  ·rw [ab h0] at y3
   obtain rfl:=ad y3
   rw [ab (by simpa using h0),d3];rfl
 have d1:kQ p l x (m,dh p) (fit,w) (y,g) (dh p) w g m.Vars m.Funcs=some true:=by
  unfold kQ
  by_cases h0:w=0
  ·rw [aa h0] at f2
   rw [aa (by simpa using h0),f2,ae,d2];rfl
  ·rw [ab h0] at f2
   obtain rfl:=ad f2
   rw [ab (by simpa using h0),d2];rfl
 have d0:kR p l x (m,dh p) (fit,w) (y,g) (dh p) w g=some true:=by
  unfold kR
  by_cases h0:dh p=0
  ·rw [aa h0] at m2
   rw [aa (by simpa using h0),m2,ae,d1];rfl
  ·rw [ab h0] at m2
   obtain rfl:=ad m2
   rw [ab (by simpa using h0),d1];rfl
 unfold vn
 rw [m1,f1,y1,hr,w2]
 simp only [ae]
 by_cases h0:w=0
 ·rw [aa h0] at y2
  rw [aa (by simpa using h0),y2,ae,d0];rfl
 ·rw [ab h0] at y2
  obtain rfl:=ad y2
  rw [ab (by simpa using h0),d0];rfl
end Go.Proofs.YtkkkkondjclcnaaGreat.A
