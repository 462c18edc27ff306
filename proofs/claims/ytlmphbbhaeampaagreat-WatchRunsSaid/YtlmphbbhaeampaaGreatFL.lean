/- Functions of the program as plain functions, by program. -/
import Derived.Test.YtlmphbbhaeampaaGreatTypes
import Derived.Test.YtlmphbbhaeampaaGreatBase
import Derived.Test.YtlmphbbhaeampaaGreatFW
import Derived.Test.YtlmphbbhaeampaaGreatFD
set_option linter.all false
set_option maxRecDepth 100000
namespace Go.Proofs.YtlmphbbhaeampaaGreat.A
open Go
noncomputable section
variable [Lp]
section
variable (a0:(List Event))(a1:(List Event))(d:Nat)
abbrev Nh(r:Bool):Prop:=call G Ω0 E0 23 [] H0=some (.ret (.b r),H0)
def yA:Option Bool:=some true
theorem Iw(r:Bool)(h:yA=some r):Nh r:=by
 obtain rfl:=aq h
 exact vR (pc 100000) E0 23 [] H0 _ (by kernel_rfl)
def nH:Option (Nat⊕(Unit⊕(Nat×Bool))):=
 if (d:Int)<(a0.length:Int) then
  (a0[d]?).bind fun y3=>
  (a1[d]?).bind fun y5=>
  if ((y3.Kind==y5.Kind)&&((y3.At==y5.At)&&((y3.Which==y5.Which)&&((y3.Value==y5.Value)&&true))))=true then
   if IntKind.i64.wrap ((d:Int)+1)=((d+1:Nat):Int) then
    some (.inl (d+1))
   else none
  else
   some (.inr (.inl ()))
 else
  some (.inr (.inr (d,decide ((d:Int)<(a0.length:Int)))))
abbrev JX(v:Nat):St:=⟨[(0,(br a0)),(1,(br a1)),(5,(I (v:Int)))],[],H0⟩
abbrev vp(x:(Unit⊕(Nat×Bool))):bc×St:=match x with | .inl ()=>(.ret,⟨[(4,(.b false))],[],H0⟩) | .inr (z1,z2)=>((.ex 0),⟨[(0,(br a0)),(1,(br a1)),(5,(I (z1:Int))),(14,(.b z2))],[],H0⟩)
theorem Ix(o:Nat⊕(Unit⊕(Nat×Bool)))(h:nH a0 a1 d=some o):bQ E0 YU (JX a0 a1) (vp a0 a1) d o:=
 bZ (ao (.i (a0.length:Int))<|.or (bt<|ao (.n d)<|.ex fun (y3:Event)=>ao (.v (.a (KB y3)))<|ao (.n d)<|.ex fun (y5:Event)=>ao (.v (.a (KB y5)))<|ao (.b ((y3.Kind==y5.Kind)&&((y3.At==y5.At)&&((y3.Which==y5.Which)&&((y3.Value==y5.Value)&&true)))))<|.or (bf<|ao (.i ((d+1:Nat):Int))<|.nil) (bt<|.nil)) (bf<|.nil)) fun L=>ai (aP bS a0)<|cw h (fun h2 h=>wa (aF h2)<|ai (rI d)<|ba h fun y3 h4 h=>ai (aB bS h4)<|fH<|ai (rI d)<|ba h fun y5 h6 h=>ai (aB bS h6)<|aZ<|ai (rfl:kl [1,1,1,1] (KB y3) (KB y5)=some ((y3.Kind==y5.Kind)&&((y3.At==y5.At)&&((y3.Which==y5.Which)&&((y3.Value==y5.Value)&&true)))))<|bB h (fun h7 h=>ai (az not h7)<|aO h fun w8 h=>ai w8<|L h) (fun h7 h=>ai (az not h7)<|L h)) (fun h2 h=>ai (aD h2)<|L h)
abbrev Ni(a0:(List Event))(a1:(List Event))(r:Bool):bC×HP:=(.ret (.b r),H0)
def tT:Option Bool:=
 if ((a0.length:Int) !=(a1.length:Int))=true then
  some false
 else
  (lp (fun v=>nH a0 a1 v) 0).bind fun x2=>match x2 with
  | .inl f=>
   some false
  | .inr e=>
   some true
theorem Iy(r:Bool)(h:tT a0 a1=some r):call G Ω0 E0 82 [(.l 128 (a0.map bS)),(.l 128 (a1.map bS))] H0=some (Ni a0 a1 r):=
 bj G82 (ao (.i (a0.length:Int))<|ao (.i (a1.length:Int))<|oN (.or (.ex fun (f:Unit)=>ao (.cA (vp a0 a1 (.inl f)))<|.nil) (.ex fun (e:(Nat×Bool))=>ao (.cA (vp a0 a1 (.inr e)))<|.nil))) fun L=>ai (aP bS a0)<|ai (aP bS a1)<|bB h (fun h1 h=>ai h1<|L h) (fun h1 h=>ai h1<|dv h (dT (Ix a0 a1) 0) (fun f h=>L h) (fun e h=>L h))
end
section
variable (a0:(List Int))(a1:(List Int))(d:Nat)
def pO:Option (Nat⊕(Unit⊕(Nat×Bool))):=
 if (d:Int)<(a0.length:Int) then
  (a0[d]?).bind fun y3=>
  (a1[d]?).bind fun y5=>
  if (y3 !=y5)=true then
   some (.inr (.inl ()))
  else
   if IntKind.i64.wrap ((d:Int)+1)=((d+1:Nat):Int) then
    some (.inl (d+1))
   else none
 else
  some (.inr (.inr (d,decide ((d:Int)<(a0.length:Int)))))
abbrev Nj(v:Nat):St:=⟨[(0,(aS a0)),(1,(aS a1)),(5,(I (v:Int)))],[],H0⟩
abbrev yB(x:(Unit⊕(Nat×Bool))):bc×St:=match x with | .inl ()=>(.ret,⟨[(4,(.b false))],[],H0⟩) | .inr (z1,z2)=>((.ex 0),⟨[(0,(aS a0)),(1,(aS a1)),(5,(I (z1:Int))),(14,(.b z2))],[],H0⟩)
theorem LN(o:Nat⊕(Unit⊕(Nat×Bool)))(h:pO a0 a1 d=some o):bQ E0 Ym (Nj a0 a1) (yB a0 a1) d o:=
 bZ (ao (.i (a0.length:Int))<|.or (bt<|ao (.n d)<|xI fun y3=>ao (.n d)<|xI fun y5=>oN (ao (.i ((d+1:Nat):Int))<|.nil)) (bf<|.nil)) fun L=>ai (aP I a0)<|cw h (fun h2 h=>wa (aF h2)<|ai (rI d)<|ba h fun y3 h4 h=>ai (aB I h4)<|fH<|ai (rI d)<|ba h fun y5 h6 h=>ai (aB I h6)<|aZ<|bB h (fun h7 h=>ai h7<|L h) (fun h7 h=>ai h7<|aO h fun w8 h=>ai w8<|L h)) (fun h2 h=>ai (aD h2)<|L h)
abbrev Q3(a0:(List Int))(a1:(List Int))(r:Bool):bC×HP:=(.ret (.b r),H0)
def sS:Option Bool:=
 if ((a0.length:Int) !=(a1.length:Int))=true then
  some false
 else
  (lp (fun v=>pO a0 a1 v) 0).bind fun x2=>match x2 with
  | .inl f=>
   some false
  | .inr e=>
   some true
theorem CW(r:Bool)(h:sS a0 a1=some r):call G Ω0 E0 20 [(.l 3 (a0.map (I))),(.l 3 (a1.map (I)))] H0=some (Q3 a0 a1 r):=
 bj G20 (ao (.i (a0.length:Int))<|ao (.i (a1.length:Int))<|oN (.or (.ex fun (f:Unit)=>ao (.cA (yB a0 a1 (.inl f)))<|.nil) (.ex fun (e:(Nat×Bool))=>ao (.cA (yB a0 a1 (.inr e)))<|.nil))) fun L=>ai (aP I a0)<|ai (aP I a1)<|bB h (fun h1 h=>ai h1<|L h) (fun h1 h=>ai h1<|dv h (dT (LN a0 a1) 0) (fun f h=>L h) (fun e h=>L h))
def Ej:List dE:=(gM 31 30)::⟨some 32,.fa 4 2,some ⟨31,true⟩,false⟩::⟨some 33,.ld none 32,some ⟨31,true⟩,false⟩::⟨some 34,.fa 4 3,some ⟨31,true⟩,false⟩::⟨some 35,.ld none 34,some ⟨31,true⟩,false⟩::⟨some 36,.bo .eql false 33 35,some ⟨31,true⟩,false⟩::(gk 37 31 36 (.c (.b false)))::(gM 38 37)::⟨some 39,.fa 5 2,some ⟨38,true⟩,false⟩::⟨some 40,.ld none 39,some ⟨38,true⟩,false⟩::⟨some 41,.fa 5 3,some ⟨38,true⟩,false⟩::⟨some 42,.ld none 41,some ⟨38,true⟩,false⟩::⟨some 43,.bo .eql false 40 42,some ⟨38,true⟩,false⟩::(gk 44 38 43 (.c (.b false)))::(gA 4 44)::[]
end
section
variable (a0:RunT)(a1:RunT)(r1:Bool)
def m7(z:Bool):Option Bool:=
 if z=true then
  if (a0.End==a1.End)=true then
   some (a0.Stop==a1.Stop)
  else
   some false
 else
  some false
abbrev pP(x:Bool):St:=⟨[(4,(.b x))],[],H0⟩
theorem rO(z:Bool)(w:List AV)(x:Bool)(h:m7 a0 a1 z=some x):q9 G Ω0 E0 [4] [] Ej ⟨[(30,(.b z)),(29,(W w 0)),(28,(W w 1)),(27,(W w 2)),(26,(W w 3)),(25,(W w 4)),(24,(W w 5)),(23,(W w 6)),(22,(W w 7)),(21,(W w 8)),(20,(W w 9)),(19,(W w 10)),(18,(W w 11)),(17,(W w 12)),(16,(W w 13)),(15,(W w 14)),(14,(W w 15)),(13,(W w 16)),(12,(W w 17)),(11,(W w 18)),(10,(.b r1)),(9,(.b r1)),(8,(br a1.Events)),(7,(zQ 3)),(6,(br a0.Events)),(5,(zQ 2)),zP 2,zP 3],[(2,(o7 a0)),(3,(o7 a1))],H0⟩=some (pP x):=
 qJ (.or (TO<|.or (TO<|.nil) (Mm<|.nil)) (ahM<|.nil)) fun L=>bB h (fun t h=>Xo t<|bB h (fun H h=>Xo H<|L h) (fun H h=>Mi H<|L h)) (fun t h=>dC t<|dC t<|qg t<|ai gf<|ai gf<|ai gf<|ai gf<|ai gf<|ai ff<|L h)
def Nk:List dE:=(gF 5 0 2)::(gQ 6 5)::(gF 7 0 3)::(gQ 8 7)::(ga 9 82 [6,8])::(gM 10 9)::⟨some 11,.fa 1 2,some ⟨10,true⟩,false⟩::⟨some 12,.ld none 11,some ⟨10,true⟩,false⟩::⟨some 13,.fa 1 3,some ⟨10,true⟩,false⟩::⟨some 14,.ld none 13,some ⟨10,true⟩,false⟩::⟨some 15,.ca 0 20 [12,14],some ⟨10,true⟩,false⟩::(gk 16 10 15 (.c (.b false)))::(gM 17 16)::⟨some 18,.fa 2 2,some ⟨17,true⟩,false⟩::⟨some 19,.ld none 18,some ⟨17,true⟩,false⟩::⟨some 20,.fa 2 3,some ⟨17,true⟩,false⟩::⟨some 21,.ld none 20,some ⟨17,true⟩,false⟩::⟨some 22,.ca 0 20 [19,21],some ⟨17,true⟩,false⟩::(gk 23 17 22 (.c (.b false)))::(gM 24 23)::⟨some 25,.fa 3 2,some ⟨24,true⟩,false⟩::⟨some 26,.ld none 25,some ⟨24,true⟩,false⟩::⟨some 27,.fa 3 3,some ⟨24,true⟩,false⟩::⟨some 28,.ld none 27,some ⟨24,true⟩,false⟩::⟨some 29,.bo .eql false 26 28,some ⟨24,true⟩,false⟩::(gk 30 24 29 (.c (.b false)))::Ej
def yD:Option Bool:=
 (tT a0.Events a1.Events).bind fun r1=>
 if r1=true then
  (sS a0.Vars a1.Vars).bind fun r4=>
  if r4=true then
   (sS a0.Taken a1.Taken).bind fun r7=>
   if r7=true then
    (m7 a0 a1 (a0.Steps==a1.Steps)).bind fun u=>
    some u
   else
    (m7 a0 a1 false).bind fun u=>
    some u
  else
   (m7 a0 a1 false).bind fun x7=>
   some x7
 else
  (m7 a0 a1 false).bind fun x4=>
  some x4
abbrev Ek(x:Bool):St:=⟨[(4,(.b x))],[],H0⟩
theorem LO(x:Bool)(h:yD a0 a1=some x):q9 G Ω0 E0 [4] [] Nk ⟨[zP 2,zP 3],[(2,(o7 a0)),(3,(o7 a1))],H0⟩=some (Ek x):=
 let D:=a0.Steps==a1.Steps;let C:=aS a0.Vars;let B:=aS a1.Vars;let A:=some 31;qJ (cM<|xB fun r1=>.or (PI<|xB fun r4=>bt<|.or (PI<|xB fun r7=>bt<|.or (TO<|.jb A 14<|.ex fun (u:Bool)=>ao (.jn (pP u))<|.nil) (Mm<|.jb A 14<|.ex fun (u:Bool)=>ao (.jn (pP u))<|.nil)) (ahM<|.jb A 14<|.ex fun (x7:Bool)=>ao (.jn (pP x7))<|.nil)) (bf<|bf<|bf<|bf<|bf<|bf<|bf<|bf<|bf<|bf<|bf<|bf<|bf<|bf<|bf<|bf<|bf<|bf<|.jb A 14<|.ex fun (x4:Bool)=>ao (.jn (pP x4))<|.nil)) fun L=>zF<|bq h (Iy a0.Events a1.Events) fun r1 h=>bB h (fun h3 h=>TF h3<|bq h (CW a0.Vars a1.Vars) fun r4 h=>ai h3<|bB h (fun h6 h=>TF h6<|bq h (CW a0.Taken a1.Taken) fun r7 h=>ai h6<|bB h (fun h9 h=>Xo h9<|bq h (rO a0 a1 r1 D [(.b D),(I a1.Steps),(.p ⟨0,3⟩ 3),(I a0.Steps),(.p ⟨0,2⟩ 3),(.b r7),(.b r7),(.b r7),(aS a1.Taken),(.p ⟨0,3⟩ 2),(aS a0.Taken),(.p ⟨0,2⟩ 2),(.b r4),(.b r4),(.b r4),B,(.p ⟨0,3⟩ 1),C,(.p ⟨0,2⟩ 1)]) fun u h=>L h) (fun h9 h=>Mi h9<|bq h (rO a0 a1 r1 false [.sk,.sk,.sk,.sk,.sk,(.b r7),(.b r7),(.b r7),(aS a1.Taken),(.p ⟨0,3⟩ 2),(aS a0.Taken),(.p ⟨0,2⟩ 2),(.b r4),(.b r4),(.b r4),B,(.p ⟨0,3⟩ 1),C,(.p ⟨0,2⟩ 1)]) fun u h=>L h)) (fun h6 h=>dC h6<|dC h6<|qg h6<|ai gf<|ai gf<|ai gf<|ai gf<|ai gf<|ai ff<|bq h (rO a0 a1 r1 false [.sk,.sk,.sk,.sk,.sk,(.b false),(.b false),.sk,.sk,.sk,.sk,.sk,(.b r4),(.b r4),(.b r4),B,(.p ⟨0,3⟩ 1),C,(.p ⟨0,2⟩ 1)]) fun x7 h=>L h)) (fun h3 h=>dC h3<|dC h3<|qg h3<|ai gf<|ai gf<|ai gf<|ai gf<|ai gf<|ai ff<|ai gf<|ai gf<|ai gf<|ai gf<|ai gf<|ai ff<|bq h (rO a0 a1 r1 false [.sk,.sk,.sk,.sk,.sk,(.b false),(.b false),.sk,.sk,.sk,.sk,.sk,(.b false),(.b false),.sk,.sk,.sk,.sk,.sk]) fun x4 h=>L h)
abbrev RX(a0:RunT)(a1:RunT)(r:Bool):bC×HP:=(.ret (.b r),H0)
def yT:Option Bool:=
 (yD a0 a1).bind fun x1=>
 some x1
theorem Nl(r:Bool)(h:yT a0 a1=some r):call G Ω0 E0 76 [(.a (o7 a0)),(.a (o7 a1))] H0=some (RX a0 a1 r):=
 bj G76 (.jb (some 5) 40<|.ex fun (x1:Bool)=>ao (.jn (Ek x1))<|.nil) fun L=>aZ<|bq h (LO a0 a1) fun x1 h=>L h
end
section
variable (a0:RunT)(a1:Int)(a2:Int)(s:(List Event))(q:(List Int))(m:(List Int))(k:Int)(j:Int)(g:Int)(a3:RunT)
def wN:Option Bool:=
 if (a1==a2)=true then
  (yT a0 (⟨s,q,m,k,j,g⟩:RunT)).bind fun r3=>
  some r3
 else
  some false
abbrev BK(x:Bool):bc×St:=(.ret,⟨[(8,(.b x))],[],H0⟩)
theorem Ft(x:Bool)(h:wN a0 a1 a2 s q m k j g=some x):run G Ω0 E0 Yt ⟨[(1,(I a1)),(2,(I a2)),zP 4,zP 7],[(4,(o7 a0)),(7,[(br s),(aS q),(aS m),(I k),(I j),(I g)])],H0⟩=some (BK x):=
 oi (.or (pn<|xB fun r3=>bt<|.nil) (TN<|.nil)) fun L=>bB h (fun h2 h=>ai (g1 h2)<|ai (rfl:Z0)<|ai (g1 h2)<|ai (rfl:Z0)<|ai (g1 h2)<|bq h (Nl a0 (⟨s,q,m,k,j,g⟩:RunT)) fun r3 h=>ai h2<|L h) (fun h2 h=>Mk h2<|L h)
abbrev Wz(a0:RunT)(a1:Int)(a2:Int)(a3:RunT)(r:Bool):bC×HP:=(.ret (.b r),H0)
def HA:Option Bool:=
 if (a2 !=0)=true then
  (wN a0 a1 a2 ([]:List Event) ([]:List Int) ([]:List Int) 0 0 0).bind fun x2=>
  some x2
 else
  (wN a0 a1 a2 a3.Events a3.Vars a3.Taken a3.Steps a3.End a3.Stop).bind fun x2=>
  some x2
theorem Q4(r:Bool)(h:HA a0 a1 a2 a3=some r):call G Ω0 E0 24 [(.a (o7 a0)),(I a1),(I a2),(.a (o7 a3))] H0=some (Wz a0 a1 a2 a3 r):=
 bj G24 (.or (ea<|.fb<|.ex fun (x2:Bool)=>ao (.ei (BK x2))<|.nil) (bf<|.fb<|.ex fun (x2:Bool)=>ao (.ei (BK x2))<|.nil)) fun L=>aZ<|bB h (fun h1 h=>ai h1<|lZ<|bq h (Ft a0 a1 a2 ([]:List Event) ([]:List Int) ([]:List Int) 0 0 0) fun x2 h=>L h) (fun h1 h=>ai h1<|bq h (Ft a0 a1 a2 a3.Events a3.Vars a3.Taken a3.Steps a3.End a3.Stop) fun x2 h=>L h)
end
section
variable (a0:(List Bool))(a1:(List Bool))(d:Nat)
def oK:Option (Nat⊕(Unit⊕(Nat×Bool))):=
 if (d:Int)<(a0.length:Int) then
  (a0[d]?).bind fun y3=>
  (a1[d]?).bind fun y5=>
  if (y3==y5)=true then
   if IntKind.i64.wrap ((d:Int)+1)=((d+1:Nat):Int) then
    some (.inl (d+1))
   else none
  else
   some (.inr (.inl ()))
 else
  some (.inr (.inr (d,decide ((d:Int)<(a0.length:Int)))))
abbrev LP(v:Nat):St:=⟨[(0,(aw a0)),(1,(aw a1)),(5,(I (v:Int)))],[],H0⟩
abbrev wO(x:(Unit⊕(Nat×Bool))):bc×St:=match x with | .inl ()=>(.ret,⟨[(4,(.b false))],[],H0⟩) | .inr (z1,z2)=>((.ex 0),⟨[(0,(aw a0)),(1,(aw a1)),(5,(I (z1:Int))),(14,(.b z2))],[],H0⟩)
theorem JY(o:Nat⊕(Unit⊕(Nat×Bool)))(h:oK a0 a1 d=some o):bQ E0 Yi (LP a0 a1) (wO a0 a1) d o:=
 bZ (ao (.i (a0.length:Int))<|.or (bt<|ao (.n d)<|xB fun y3=>ao (.n d)<|xB fun y5=>.or (bf<|ao (.i ((d+1:Nat):Int))<|.nil) (bt<|.nil)) (bf<|.nil)) fun L=>ai (aP AV.b a0)<|cw h (fun h2 h=>wa (aF h2)<|ai (rI d)<|ba h fun y3 h4 h=>ai (aB AV.b h4)<|fH<|ai (rI d)<|ba h fun y5 h6 h=>ai (aB AV.b h6)<|aZ<|bB h (fun h7 h=>ai (az not h7)<|aO h fun w8 h=>ai w8<|L h) (fun h7 h=>ai (az not h7)<|L h)) (fun h2 h=>ai (aD h2)<|L h)
abbrev OG(a0:(List Bool))(a1:(List Bool))(r:Bool):bC×HP:=(.ret (.b r),H0)
def qW:Option Bool:=
 if ((a0.length:Int) !=(a1.length:Int))=true then
  some false
 else
  (lp (fun v=>oK a0 a1 v) 0).bind fun x2=>match x2 with
  | .inl f=>
   some false
  | .inr e=>
   some true
theorem BL(r:Bool)(h:qW a0 a1=some r):call G Ω0 E0 14 [(.l 4 (a0.map AV.b)),(.l 4 (a1.map AV.b))] H0=some (OG a0 a1 r):=
 bj G14 (ao (.i (a0.length:Int))<|ao (.i (a1.length:Int))<|oN (.or (.ex fun (f:Unit)=>ao (.cA (wO a0 a1 (.inl f)))<|.nil) (.ex fun (e:(Nat×Bool))=>ao (.cA (wO a0 a1 (.inr e)))<|.nil))) fun L=>ai (aP AV.b a0)<|ai (aP AV.b a1)<|bB h (fun h1 h=>ai h1<|L h) (fun h1 h=>ai h1<|dv h (dT (JY a0 a1) 0) (fun f h=>L h) (fun e h=>L h))
end
section
variable (a0:Level)(a1:Level)
abbrev OH(a0:Level)(a1:Level)(r:Bool):bC×HP:=(.ret (.b r),H0)
def uV:Option Bool:=
 (qW a0.Readers a1.Readers).bind fun r1=>
 if r1=true then
  (qW a0.Writers a1.Writers).bind fun r4=>
  some r4
 else
  some false
theorem JZ(r:Bool)(h:uV a0 a1=some r):call G Ω0 E0 77 [(.a [(.l 4 (a0.Readers.map AV.b)),(.l 4 (a0.Writers.map AV.b))]),(.a [(.l 4 (a1.Readers.map AV.b)),(.l 4 (a1.Writers.map AV.b))])] H0=some (OH a0 a1 r):=
 bj G77 (cM<|xB fun r1=>.or (PI<|xB fun r4=>bt<|.nil) (Mm<|.nil)) fun L=>Mg<|bq h (BL a0.Readers a1.Readers) fun r1 h=>bB h (fun h3 h=>TF h3<|bq h (BL a0.Writers a1.Writers) fun r4 h=>ai h3<|L h) (fun h3 h=>Mi h3<|L h)
end
section
variable (a0:(List Level))(a1:(List Level))(d:Nat)(r1:(RunT×(List Level)×Int))(r3:Int)(s:(List Level))(q:(List Event))(m:(List Int))(k:(List Int))(j:Int)(g:Int)(y:Int)
def nI:Option (Nat⊕(Unit⊕(Nat×Bool))):=
 if (d:Int)<(a0.length:Int) then
  (a0[d]?).bind fun y3=>
  (a1[d]?).bind fun y5=>
  (uV y3 y5).bind fun r7=>
  if r7=true then
   if IntKind.i64.wrap ((d:Int)+1)=((d+1:Nat):Int) then
    some (.inl (d+1))
   else none
  else
   some (.inr (.inl ()))
 else
  some (.inr (.inr (d,decide ((d:Int)<(a0.length:Int)))))
abbrev J0(v:Nat):St:=⟨[(0,(jR a0)),(1,(jR a1)),(5,(I (v:Int)))],[],H0⟩
abbrev vq(x:(Unit⊕(Nat×Bool))):bc×St:=match x with | .inl ()=>(.ret,⟨[(4,(.b false))],[],H0⟩) | .inr (z1,z2)=>((.ex 0),⟨[(0,(jR a0)),(1,(jR a1)),(5,(I (z1:Int))),(14,(.b z2))],[],H0⟩)
theorem Iz(o:Nat⊕(Unit⊕(Nat×Bool)))(h:nI a0 a1 d=some o):bQ E0 Yu (J0 a0 a1) (vq a0 a1) d o:=
 bZ (ao (.i (a0.length:Int))<|.or (bt<|ao (.n d)<|.ex fun (y3:Level)=>ao (.v (.a [(aw y3.Readers),(aw y3.Writers)]))<|ao (.n d)<|.ex fun (y5:Level)=>ao (.v (.a [(aw y5.Readers),(aw y5.Writers)]))<|xB fun r7=>.or (bf<|ao (.i ((d+1:Nat):Int))<|.nil) (bt<|.nil)) (bf<|.nil)) fun L=>ai (aP aC a0)<|cw h (fun h2 h=>wa (aF h2)<|ai (rI d)<|ba h fun y3 h4 h=>ai (aB aC h4)<|fH<|ai (rI d)<|ba h fun y5 h6 h=>ai (aB aC h6)<|aZ<|bq h (JZ y3 y5) fun r7 h=>bB h (fun h9 h=>ai (az not h9)<|aO h fun K h=>ai K<|L h) (fun h9 h=>ai (az not h9)<|L h)) (fun h2 h=>ai (aD h2)<|L h)
abbrev Nn(a0:(List Level))(a1:(List Level))(r:Bool):bC×HP:=(.ret (.b r),H0)
def tU:Option Bool:=
 if ((a0.length:Int) !=(a1.length:Int))=true then
  some false
 else
  (lp (fun v=>nI a0 a1 v) 0).bind fun x2=>match x2 with
  | .inl f=>
   some false
  | .inr e=>
   some true
theorem IA(r:Bool)(h:tU a0 a1=some r):call G Ω0 E0 25 [(.l 113 (a0.map aC)),(.l 113 (a1.map aC))] H0=some (Nn a0 a1 r):=
 bj G25 (ao (.i (a0.length:Int))<|ao (.i (a1.length:Int))<|oN (.or (.ex fun (f:Unit)=>ao (.cA (vq a0 a1 (.inl f)))<|.nil) (.ex fun (e:(Nat×Bool))=>ao (.cA (vq a0 a1 (.inr e)))<|.nil))) fun L=>ai (aP aC a0)<|ai (aP aC a1)<|bB h (fun h1 h=>ai h1<|L h) (fun h1 h=>ai h1<|dv h (dT (Iz a0 a1) 0) (fun f h=>L h) (fun e h=>L h))
def qF:Option Bool:=
 (yA).bind fun r8=>
 if r8=true then
  (HA r1.1 r1.2.2 r3 (⟨q,m,k,j,g,y⟩:RunT)).bind fun F=>
  if F=true then
   (tU r1.2.1 s).bind fun E=>
   some E
  else
   none
 else
  none
abbrev vt(x:Bool):bc×St:=(.ret,⟨[(6,(.b x))],[],H0⟩)
theorem Ad(x:Bool)(h:qF r1 r3 s q m k j g y=some x):run G Ω0 E0 aaP ⟨[zP 7,(8,(jR r1.2.1)),(9,(I r1.2.2)),(10,(I r3)),zP 11,(12,(jR s))],[(7,(o7 r1.1)),(11,[(br q),(aS m),(aS k),(I j),(I g),(I y)])],H0⟩=some (vt x):=
 oi (xB fun r8=>PI<|xB fun F=>mg<|xB fun E=>bt<|.nil) fun L=>bq h Iw fun r8 h=>Xi h (fun t h=>ai (g1 t)<|ai (rfl:Z0)<|dC t<|ai (g1 t)<|ai (rfl:Z0)<|ai (g1 t)<|bq h (Q4 r1.1 r1.2.2 r3 (⟨q,m,k,j,g,y⟩:RunT)) fun F h=>ai t<|Xi h (fun J h=>PE J<|bq h (IA r1.2.1 s) fun E h=>ai J<|L h) (fun _ h=>TA h)) (fun _ h=>TA h)
end
section
variable (a0:Program)(a1:(List (List Int)))(a2:Int)
abbrev OI(a0:Program)(a1:(List (List Int)))(a2:Int)(r:Bool):bC×HP:=(.ret (.b r),H0)
def z8:Option Bool:=
 (qU a0 a1 a2).bind fun r1=>
 (wI a0 a1 a2).bind fun r3=>
 if (r3==0)=true then
  (CT a0 a1 a2).bind fun r6=>
  (qF r1 r3 r6.2 r6.1.Events r6.1.Vars r6.1.Taken r6.1.Steps r6.1.End r6.1.Stop).bind fun x8=>
  some x8
 else
  (qF r1 r3 ([]:List Level) ([]:List Event) ([]:List Int) ([]:List Int) 0 0 0).bind fun x6=>
  some x6
theorem J1(r:Bool)(h:z8 a0 a1 a2=some r):call G Ω0 E0 5 [(.a (aL a0)),(.l 25 (a1.map (db 3 (I)))),(I a2)] H0=some (OI a0 a1 a2 r):=
 bj G5 (bt<|.ex fun (r1:(RunT×(List Level)×Int))=>ao (.v (.tp [(.a (o7 r1.1)),(jR r1.2.1),(I r1.2.2)]))<|ea<|xI fun r3=>.or (cM<|.ex fun (r6:(RunT×(List Level)))=>ao (.v (.tp [(.a (o7 r6.1)),(jR r6.2)]))<|cM<|.fb<|.ex fun (x8:Bool)=>ao (.ei (vt x8))<|.nil) (bf<|.fb<|.ex fun (x6:Bool)=>ao (.ei (vt x6))<|.nil)) fun L=>uq<|bq h (JF a0 a1 a2) fun r1 h=>IF<|bq h (LD a0 a1 a2) fun r3 h=>ai tt<|bB h (fun h5 h=>lG h5<|bq h (QZ a0 a1 a2) fun r6 h=>lZ<|bq h (Ad r1 r3 r6.2 r6.1.Events r6.1.Vars r6.1.Taken r6.1.Steps r6.1.End r6.1.Stop) fun x8 h=>L h) (fun h5 h=>ai h5<|bq h (Ad r1 r3 ([]:List Level) ([]:List Event) ([]:List Int) ([]:List Int) 0 0 0) fun x6 h=>L h)
end
end
end Go.Proofs.YtlmphbbhaeampaaGreat.A
